/- lyceumlaw41.Proved returns the proof of its bytes. Conditions: a slice of bytes that lies in memory. -/
import Derived.Test.YtcandidgaegghaaGreatDoorPvBZ
import Derived.Deep.RegionLawGrows
import Derived.Outline
import Derived.Deep.CutBlock
import Derived.IntWalk
import Derived.Deep.DrawnRows
namespace Go.Proofs.YtcandidgaegghaaGreatDoor
open Go Go.RowKit Ly
set_option maxRecDepth 10000
set_option linter.unusedSimpArgs false
set_option linter.unusedVariables false
set_option maxHeartbeats 2000000
theorem row53 {w : World} {b : Nat} {x0 x1 x2 x3 x4 x5 x6 x7 : Value} (h : w.heap[b]? = some (.cells #[x0, x1, x2, x3, x4, x5, x6, x7] 53 (0, 0))) :
    w.cell? ⟨b, 0, none⟩ = some x0 ∧ w.cell? ⟨b, 1, none⟩ = some x1 ∧ w.cell? ⟨b, 2, none⟩ = some x2 ∧ w.cell? ⟨b, 3, none⟩ = some x3 ∧ w.cell? ⟨b, 4, none⟩ = some x4 ∧ w.cell? ⟨b, 5, none⟩ = some x5 ∧ w.cell? ⟨b, 6, none⟩ = some x6 ∧ w.cell? ⟨b, 7, none⟩ = some x7 :=
  ⟨(box_cell h 0).trans rfl, (box_cell h 1).trans rfl, (box_cell h 2).trans rfl, (box_cell h 3).trans rfl, (box_cell h 4).trans rfl, (box_cell h 5).trans rfl, (box_cell h 6).trans rfl, (box_cell h 7).trans rfl⟩
theorem row_form {base size n : Nat} {w : World} {e : TypeId} {v : Value} {xs : List Value} (ho : w.ownsRow base e size v n xs) : ∃ a c, v = .slice a n c := by
  rcases ho.2 with ⟨rfl, rfl⟩ | ⟨g, cap, cur, rfl, hb, hg, h1, h2, h3, h4⟩
  · exact ⟨none, 0, rfl⟩
  · exact ⟨_, _, rfl⟩
/-- An element of the list of proofs. -/
structure PElem (w wb : World) (sa : Option Addr) (N sc g j : Nat) (p : Pf) (a : Option Addr) (n c : Nat) (b : Option Addr) (m d : Nat) (s : Option Addr) (sn sc' : Nat) (q : Option Addr) (qn qc : Nat) : Prop where
  c0 : wb.cell? ⟨g, j * 8, none⟩ = some (str p.rule)
  c1 : wb.cell? ⟨g, j * 8 + 1, none⟩ = some (.int .u8 p.form.op)
  c2 : wb.cell? ⟨g, j * 8 + 2, none⟩ = some (str p.form.name)
  c3 : wb.cell? ⟨g, j * 8 + 3, none⟩ = some (.slice a n c)
  c4 : wb.cell? ⟨g, j * 8 + 4, none⟩ = some (.slice b m d)
  c5 : wb.cell? ⟨g, j * 8 + 5, none⟩ = some (.int .i64 p.label)
  c6 : wb.cell? ⟨g, j * 8 + 6, none⟩ = some (.slice s sn sc')
  c7 : wb.cell? ⟨g, j * 8 + 7, none⟩ = some (.slice q qn qc)
  h3 : TmsAt (hide (qh w sa N sc) wb) p.form.args (.slice a n c)
  h4 : FmsAt (hide (qh w sa N sc) wb) p.form.sub (.slice b m d)
  h6 : PfsAt (hide (qh w sa N sc) wb) p.sub (.slice s sn sc')
  h7 : MarksAt (hide (qh w sa N sc) wb) p.marks (.slice q qn qc)
  all : CellsAt (hide (qh w sa N sc) wb) p.ds [str p.rule, .int .u8 p.form.op, str p.form.name, .slice a n c, .slice b m d, .int .i64 p.label, .slice s sn sc', .slice q qn qc]
theorem p_elem {w wb : World} {l : Bs} {k N sc : Nat} {sa : Option Addr} (H : PRel w l k (.slice sa N sc) wb) {j : Nat} {p : Pf} (hp : (pFold l k)[j]? = some p) :
    ∃ g a n c b m d s sn sc' q qn qc, sa = some ⟨g, 0, none⟩ ∧ g < wb.heap.size ∧ PElem w wb sa N sc g j p a n c b m d s sn sc' q qn qc := by
  obtain ⟨xs, ho, hc⟩ := H.own
  have hj := (List.getElem?_eq_some_iff.1 hp).1
  rcases ho.2 with ⟨e, h0⟩ | ⟨g, cap, cur, e, hb, hg, _⟩
  · omega
  · obtain rfl : sa = some ⟨g, 0, none⟩ := by cases e; rfl
    have hx := fun j u h => ho.cells (g := g) rfl j u h
    obtain ⟨r, ⟨op, nm, ta, sub⟩, lb, ps, ms⟩ := p
    have cell : ∀ t d, (pfsDs (pFold l k))[j * 8 + t]? = some d → ∃ u, wb.cell? ⟨g, j * 8 + t, none⟩ = some u ∧ At (hide (qh w (some ⟨g, 0, none⟩) N sc) wb) d u := by
      intro t d hd
      obtain ⟨u, h1, h2⟩ := hc.2 _ d hd
      have := hx _ u h1
      rw [show ((⟨g, 0, none⟩ : Addr).add (j * 8 + t)) = ⟨g, j * 8 + t, none⟩ by simp [Addr.add]; omega] at this
      exact ⟨u, this, h2⟩
    obtain ⟨u0, k0, p0⟩ := cell 0 (.val (str r)) (pfsDs_get _ j _ hp 0 (by omega))
    obtain ⟨u1, k1, p1⟩ := cell 1 (.val (.int .u8 op)) (pfsDs_get _ j _ hp 1 (by omega))
    obtain ⟨u2, k2, p2⟩ := cell 2 (.val (str nm)) (pfsDs_get _ j _ hp 2 (by omega))
    obtain ⟨u3, k3, p3⟩ := cell 3 (.sl 3 ta.length (tmsDs ta)) (pfsDs_get _ j _ hp 3 (by omega))
    obtain ⟨u4, k4, p4⟩ := cell 4 (.sl 4 sub.length (fmsDs sub)) (pfsDs_get _ j _ hp 4 (by omega))
    obtain ⟨u5, k5, p5⟩ := cell 5 (.val (.int .i64 lb)) (pfsDs_get _ j _ hp 5 (by omega))
    obtain ⟨u6, k6, p6⟩ := cell 6 (.sl 8 ps.length (pfsDs ps)) (pfsDs_get _ j _ hp 6 (by omega))
    obtain ⟨u7, k7, p7⟩ := cell 7 (.sl 1 ms.length (ms.map marksD)) (pfsDs_get _ j _ hp 7 (by omega))
    obtain ⟨x, xk, xe, rfl⟩ := TmsAt.slice (l := ta) p3
    obtain ⟨y, m, d, rfl⟩ := FmsAt.slice (l := sub) p4
    obtain ⟨s, sn, sc', rfl⟩ := PfsAt.slice (l := ps) p6
    obtain ⟨q, qn, qc, rfl⟩ := MarksAt.slice (l := ms) p7
    have e0 : u0 = _ := p0
    have e1 : u1 = _ := p1
    have e2 : u2 = _ := p2
    have e5 : u5 = _ := p5
    subst e0 e1 e2 e5
    exact ⟨g, x, xk, xe, y, m, d, s, sn, sc', q, qn, qc, rfl, (Array.getElem?_eq_some_iff.1 hg).1, k0, k1, k2, k3, k4, k5, k6, k7, p3, p4, p6, p7, pf_cells (p := .mk r (.mk op nm ta sub) lb ps ms) p3 p4 p6 p7⟩
theorem pfsDs_next {S : List Pf} {D i : Nat} {p : Pf} (h : S[D + i]? = some p) : (pfsDs (S.drop D)).take ((i + 1) * 8) = (pfsDs (S.drop D)).take (i * 8) ++ p.ds := by
  rw [← pfsDs_take, ← pfsDs_take, List.take_add_one, List.getElem?_drop, h, pfsDs_append]
  simp [pfsDs]
/-- The marks of a premise so far. -/
def MR (w6 : World) (b i j : Nat) (u : Value) (wq : World) : Prop := Below w6.heap.size w6 wq ∧ wq.ownsRow w6.heap.size 3 1 u j (((List.range j).map fun j => (((b * j * 7 + i) % 1000 : Nat) : Int)).map fun z => Value.int .i64 z)
theorem MR.marks {w6 wq W1 : World} {b i : Nat} {u : Value} (h : MR w6 b i ((b + i) % 4) u wq) (B : Below wq.heap.size wq W1) : At (hide (fun j => lo w6 j) W1) (marksD (marksOf b i)) u := by
  have O : OwnDs (lo w6) w6.heap.size wq 3 1 ((b + i) % 4) ((marksOf b i).map intD) u := by
    refine ⟨_, h.2, by simp [marksOf], fun j d hd => ?_⟩
    rw [List.getElem?_map] at hd
    obtain ⟨z, hz, rfl⟩ := Option.map_eq_some_iff.1 hd
    exact ⟨.int .i64 z, by rw [List.getElem?_map]; unfold marksOf at hz; rw [hz]; rfl, rfl⟩
  have := (O.moved (w' := W1) (fun k hk => by simp [lo]; omega) (fun k h1 _ => B.block k h1)).at (fun k hk => by simp [lo]; omega)
  unfold marksD
  rwa [show (marksOf b i).length = (b + i) % 4 by simp [marksOf]]
theorem MR.next {w6 wq w5 : World} {b i j : Nat} {u v5 : Value} {o : Obj} (h : MR w6 b i j u wq) (h5 : w5.ownsRow w6.heap.size 3 1 v5 (j + 1) ((((List.range j).map fun j => (((b * j * 7 + i) % 1000 : Nat) : Int)).map fun z => Value.int .i64 z) ++ [.int .i64 (((b * j * 7 + i) % 1000 : Nat) : Int)])) (hg : (wq.alloc o).grownBy w5 u.ownBlock) : MR w6 b i (j + 1) v5 w5 := by
  refine ⟨?_, ?_⟩
  · exact (h.1.alloc h.1.size _).grown hg (by have := h.1.size; simp; omega) (fun kk hkk => (h.2.lt kk hkk).1)
  · rw [List.range_succ, List.map_append, List.map_append]; exact h5
theorem u53 : ∃ fs, Tryz.prog.underlying 53 = some (.struct fs) := ⟨_, Tryz.underlying53⟩
theorem i53 : (Tryz.prog.info? 53).map (·.size) = some 8 := by kernel_rfl
theorem res53 {fn : Func} {p : Tmp} (h : fn.results = #[.cell p 53]) (tmps : Array Value) (w : World) (g : Nat) (a b c d e f x y : Value) (fr : Nat × Nat)
    (hp : tmps.getD p undef = one g) (hg : w.heap[g]? = some (.cells #[a, b, c, d, e, f, x, y] 53 fr)) : (results fn tmps).run Tryz.prog w = .ok (.agg #[a, b, c, d, e, f, x, y]) w := by
  obtain ⟨fs, h1⟩ := u53
  exact results_cell_row h tmps w g 53 #[a, b, c, d, e, f, x, y] fr _ hp hg h1 rfl i53
theorem own_cap {w wb : World} {l : Bs} {k N sc : Nat} {sa : Option Addr} (H : PRel w l k (.slice sa N sc) wb) : N ≤ sc ∧ (sa = none → N = 0) := by
  obtain ⟨xs, ho, hc⟩ := H.own
  rcases ho.2 with ⟨e, h0⟩ | ⟨g, cap, cur, e, hb, hg, h1, _⟩
  · cases e; exact ⟨Nat.zero_le _, fun _ => rfl⟩
  · cases e; exact ⟨h1, fun e => by cases e⟩
def W8 (w3 : World) (g : Nat) (r : Bs) (op : Int) (nm : Bs) (a : Option Addr) (n c : Nat) (b : Option Addr) (m d : Nat) (lb : Int) (s : Option Addr) (sn sc : Nat) (q : Option Addr) (qn qc : Nat) : World :=
  (((((((w3.setCell ⟨g, 0, none⟩ (str r)).setCell ⟨g, 1, none⟩ (.int .u8 op)).setCell ⟨g, 2, none⟩ (str nm)).setCell ⟨g, 3, none⟩ (.slice a n c)).setCell ⟨g, 4, none⟩ (.slice b m d)).setCell ⟨g, 5, none⟩ (.int .i64 lb)).setCell ⟨g, 6, none⟩ (.slice s sn sc)).setCell ⟨g, 7, none⟩ (.slice q qn qc)
theorem proved_end {w w3 : World} {p r : Pf} {a b s q : Option Addr} {n c m d sn sc qn qc : Nat} {tmps : Array Value} (B : Below w.heap.size w w3)
    (hg : w3.heap[w.heap.size]? = some (.cells #[str [], .int .u8 0, str [], .slice none 0 0, .slice none 0 0, .int .i64 0, .slice none 0 0, .slice none 0 0] 53 (0, 0)))
    (h3 : TmsAt (hide (lo1 w) w3) p.form.args (.slice a n c)) (h4 : FmsAt (hide (lo1 w) w3) p.form.sub (.slice b m d)) (h6 : PfsAt (hide (lo1 w) w3) p.sub (.slice s sn sc)) (h7 : MarksAt (hide (lo1 w) w3) p.marks (.slice q qn qc)) (hr : r = p) (h2 : tmps.getD 2 undef = one w.heap.size) :
    bodyPost Tryz.prog Tryz.f23 (Ret PfVal r w) .ret ⟨tmps, []⟩ (W8 w3 w.heap.size p.rule p.form.op p.form.name a n c b m d p.label s sn sc q qn qc) := by
  subst hr
  have g1 := set_block (o := 0) (u := str r.rule) hg
  have g2 := set_block (o := 1) (u := .int .u8 r.form.op) g1
  have g3 := set_block (o := 2) (u := str r.form.name) g2
  have g4 := set_block (o := 3) (u := .slice a n c) g3
  have g5 := set_block (o := 4) (u := .slice b m d) g4
  have g6 := set_block (o := 5) (u := .int .i64 r.label) g5
  have g7 := set_block (o := 6) (u := .slice s sn sc) g6
  have g8 := set_block (o := 7) (u := .slice q qn qc) g7
  have K0 : Keeps (hide (lo1 w) w3) (hide (lo w) (W8 w3 w.heap.size r.rule r.form.op r.form.name a n c b m d r.label s sn sc q qn qc)) := lo1_lo fun k _ hne => by
    unfold W8
    rw [Below.heap_setCell _ _ _ _ hne, Below.heap_setCell _ _ _ _ hne, Below.heap_setCell _ _ _ _ hne, Below.heap_setCell _ _ _ _ hne, Below.heap_setCell _ _ _ _ hne, Below.heap_setCell _ _ _ _ hne, Below.heap_setCell _ _ _ _ hne, Below.heap_setCell _ _ _ _ hne]
  have K := K0.trans (hide_keeps _ _)
  have B8 : Below w.heap.size w (W8 w3 w.heap.size r.rule r.form.op r.form.name a n c b m d r.label s sn sc q qn qc) := (((((((B.setCell (by simp) _).setCell (by simp) _).setCell (by simp) _).setCell (by simp) _).setCell (by simp) _).setCell (by simp) _).setCell (by simp) _).setCell (by simp) _
  refine bodyPost_ret (res53 rfl _ (W8 w3 w.heap.size r.rule r.form.op r.form.name a n c b m d r.label s sn sc q qn qc) w.heap.size _ _ _ _ _ _ _ _ (0, 0) h2 g8) rfl ?_
  exact ⟨_, rfl, ⟨_, _, _, _, _, _, _, _, _, _, _, _, rfl, h3.keep K, h4.keep K, h6.keep K, h7.keep K⟩, B8⟩
theorem row53f {w : World} {b : Nat} {x0 x1 x2 x3 x4 x5 x6 x7 : Value} (h : w.heap[b]? = some (.cells #[x0, x1, x2, x3, x4, x5, x6, x7] 53 (0, 0))) :
    w.frozen? ⟨b, 0, none⟩ = false ∧ w.frozen? ⟨b, 1, none⟩ = false ∧ w.frozen? ⟨b, 2, none⟩ = false ∧ w.frozen? ⟨b, 3, none⟩ = false ∧ w.frozen? ⟨b, 4, none⟩ = false ∧ w.frozen? ⟨b, 5, none⟩ = false ∧ w.frozen? ⟨b, 6, none⟩ = false ∧ w.frozen? ⟨b, 7, none⟩ = false := by
  refine ⟨?_, ?_, ?_, ?_, ?_, ?_, ?_, ?_⟩ <;> simp [World.frozen?, h]
theorem qh_lo1 {w wb w3 : World} {sa : Option Addr} {N sc : Nat} (h : ∀ k, k < wb.heap.size → w3.heap[k]? = wb.heap[k]?) : Keeps (hide (qh w sa N sc) wb) (hide (lo1 w) w3) := hide_keeps2 fun k h1 h2 => ⟨(Bool.or_eq_false_iff.1 h2).1, h k h1⟩
theorem proved_at (l : Bs) (n k : Nat) (hn : n = l.length) (h1 : k ≤ n) (h2 : k ≤ 30) (h3 : ¬ (k < n ∧ k < 30)) : proved l = (pFold l k).getLastD dummyPf := by
  unfold proved
  rw [show min l.length 30 = k by omega]
theorem last_get {s : List Pf} {N : Nat} (h : s.length = N) (hp : 0 < N) : ∃ p, s[N - 1]? = some p ∧ s.getLastD dummyPf = p := by
  subst h
  refine ⟨s[s.length - 1], List.getElem?_eq_getElem (by omega), ?_⟩
  rw [List.getLastD_eq_getLast?, List.getLast?_eq_getElem?, List.getElem?_eq_getElem (by omega)]; rfl
set_option maxHeartbeats 16000000 in
theorem proved_c (l : Bs) (a : Option Addr) (n c : Nat) (w : World) (h : BtsAt w l (.slice a n c)) : Calls Tryz.prog 23 #[.slice a n c] w (Ret PfVal (proved l) w) := by
  obtain ⟨hn, hc, hm⟩ := h.len
  have hlen : n ≤ 9223372036854775807 := by have := le63 hm; omega
  have hcl : c ≤ 9223372036854775807 := le63 hm
  have HN := Lib.hid hn
  have HL := Lib.hid h
  have HC := Lib.hid hc
  clear hn hm h hc
  obtain ⟨i0, hi0, hz0, hs0, hb0⟩ := info_parts info53
  obtain ⟨j0, hj0, hzj, hsj, hbj⟩ := info_parts info29
  obtain ⟨m0, hm0, hzm, hsm, hbm⟩ := info_parts info3
  go_enter Tryz.func23, Tryz.ntmps23
  go_wp2_with fail
  go_loopw [3, 4] (fun v i wr => ∃ k : Nat, k ≤ n ∧ k ≤ 30 ∧ i = .int .i64 k ∧ Hid (PRel w l k v wr)) (fun _ i _ => 30 - (intOf i).toNat)
  case atStart => exact ⟨0, by omega, by omega, rfl, ⟨OwnDs.nil _ _ _ _ _, (Below.refl _ _).alloc (Nat.le_refl _) _, heap_alloc_new _ _⟩⟩
  case round =>
    obtain ⟨k, hk, hk2, rfl, hs⟩ := hrel
    by_cases hlt : k < n ∧ k < 30
    · obtain ⟨hk3, hk4⟩ := hlt
      obtain ⟨x, hx⟩ := get_of_lt (l := l) (j := k) (by rw [← HN.out]; exact hk3)
      obtain ⟨b, off, rfl, hcell⟩ := HL.out.get (ne_of_get hx)
      have c0 := keeps_of_below hs.out.bw _ _ (hcell k x hx)
      have HCELL := Lib.hid hcell
      clear hcell
      obtain ⟨sa, sc, rfl, hsc⟩ := hs.out.own.form
      have hN : (pFold l k).length ≤ k := (pFold_inv l k).1
      generalize hNN : (pFold l k).length = N at hN hs ⊢
      have HNN := Lib.hid hNN
      generalize hxx : x.toNat = xx at c0
      have HXX := Lib.hid (And.intro hx hxx)
      have x1 : xx < 256 := by rw [← hxx]; exact x.toNat_lt
      have x0 : (0 : Int) ≤ xx := by omega
      have x2 : (xx : Int) < 256 := by omega
      have k0 : (0 : Int) ≤ k := by omega
      have k1 : (k : Int) < n := by omega
      have k2 : (k : Int) < 30 := by omega
      have k3 : decide ((k : Int) < 30) = true := by simp; omega
      have HSC := Lib.hid hsc
      have N30 : N ≤ 30 := by omega
      clear hNN hxx hx hsc
      go_upto_block 1 with fail
      go_cut [3] from 5 to 134 (fun u3 wx => Hid (PRel w l (k + 1) u3 wx))
      case rest =>
        go_wp2_with fail
        go_roundw
        case rel => exact ⟨k + 1, by omega, by omega, by go_num, hcut.out⟩
        case measure => simp [intOf]; omega
      case first =>
      go_upto_region 5 with fail
      go_cut [5, 6] from 23 to 28 (fun u5 u6 wx => u5 = .int .i64 N ∧ u6 = .int .u8 xx ∧ Hid (PRel w l k (.slice sa N sc) wx))
      case first =>
        go_quiet (fail)
        go_wp2_with fail
        go_meet
        exact ⟨rfl, rfl, hs.out.drewN _⟩
      case rest =>
      obtain ⟨rfl, rfl, HS⟩ := hcut
      obtain ⟨wb, hwb⟩ : ∃ wb, wb = wc := ⟨_, rfl⟩
      subst hwb
      clear hs c0
      obtain ⟨q, hq⟩ : ∃ q, k / 2 = q := ⟨_, rfl⟩
      obtain ⟨e, he⟩ : ∃ e, min (q + xx % 4) n = e := ⟨_, rfl⟩
      have qz : (k : Int) / 2 = q := by omega
      have ez : min ((q : Int) + (xx : Int) % 4) n = e := by omega
      have q0 : (0 : Int) ≤ q := by omega
      have q1 : (q : Int) ≤ e := by omega
      have q2 : (e : Int) ≤ c := by have := HC.out; omega
      have HB := Lib.hid (show margin l k xx = (l.drop q).take (e - q) by unfold margin; rw [hq, ← HN.out, he])
      have HE := Lib.hid (show q + (e - q) ≤ n by omega)
      have q3 : ¬ c = q := by have := HC.out; omega
      have q4 : ¬ c - q = 0 := by omega
      have q5 : ¬ c ≤ q := by omega
      clear hq he
      go_upto_region 6 with fail
      go_cut [7] from 29 to 42 (fun u7 wx => ∃ fa fn fc fb fm fd g7, u7 = one g7 ∧ Hid (FP wb (built (margin l k xx)) fa fn fc fb fm fd g7 wx))
      case first =>
        go_wp2_with (go_at_call 20; refine (built_c (margin l k xx) _ _ _ _ (by rw [HB.out]; exact (HL.out.sub HE.out).keep (keeps_of_below HS.out.bw))).mono ?_; rintro e w1 ⟨fa, fn, fc, fb, fm, fd, rfl, ht, hs, b1⟩; have H1 := Lib.hid (And.intro ht (And.intro hs b1)); clear ht hs b1)
        go_meet
        obtain ⟨ht, hs, b1⟩ := H1.out
        have K : Keeps (hide (lo wb) w1) (hide (lo wb) (w1.alloc (.cells #[.int .u8 (built (margin l k xx)).op, str (built (margin l k xx)).name, .slice fa fn fc, .slice fb fm fd] 25))) := hide_keeps2 fun i h1 h2 => ⟨h2, heap_alloc_old _ _ h1⟩
        exact ⟨_, _, _, _, _, _, _, rfl, b1.alloc b1.size _, heap_alloc_new _ _, ht.keep K, hs.keep K⟩
      case rest =>
      obtain ⟨fa, fn, fc, fb, fm, fd, g7, rfl, HF⟩ := hcut
      clear qz ez q0 q1 q2 q3 q4 q5 HB HE
      obtain ⟨F, hF⟩ : ∃ F, built (margin l k xx) = F := ⟨_, rfl⟩
      rw [hF] at HF
      have HFE := Lib.hid hF
      have HST : Hid (pFold l (k + 1) = pStep l (pFold l k) k xx) := by
        have e : l.getD k 0 = x := by rw [List.getD_eq_getElem?_getD, HXX.out.1]; rfl
        show pStep l (pFold l k) k (l.getD k 0).toNat = _
        rw [e, HXX.out.2]
      obtain ⟨M, hMM⟩ : ∃ M, xx / 4 % 5 = M := ⟨_, rfl⟩
      have M5 : M ≤ 4 := by omega
      have mz : (xx : Int) / 4 % 5 = M := by omega
      clear hF
      go_upto_region 7 with fail
      go_cut [8] from 43 to 46 (fun u8 wx => u8 = .int .i64 M ∧ Hid (FP wb F fa fn fc fb fm fd g7 wx))
      case first =>
        go_wp2_with fail
        go_meet
        exact ⟨congrArg (Value.int .i64) mz, HF.out⟩
      case rest =>
      obtain ⟨rfl, HF⟩ := hcut
      obtain ⟨f0, f1, f2, f3, -, -, -, -⟩ := row25' HF.out.cell
      clear mz
      rcases (show xx % 4 = 0 ∨ xx % 4 = 1 ∨ (¬ xx % 4 = 0 ∧ ¬ xx % 4 = 1) by omega) with hm | hm | ⟨hm, hm'⟩
      ·
        have hi : (xx : Int) % 4 = 0 := by omega
        clear hMM
        have hst : pFold l (k + 1) = pFold l k ++ [.mk [] F (1 + xx * 3) [] []] := by rw [HST.out, ← HFE.out]; unfold pStep; rw [if_pos hm]
        have HHST := Lib.hid hst
        have HM := Lib.hid hm
        clear hst hm
        go_wp2_with (first
          | (go_at_call 60; refine (leaf41_x _ _ _ _ _ _ _ _ _ _).mono ?_; rintro e w1 ⟨rfl, b1⟩; have Fp := HF.out.moved b1; have hst := HHST.out; obtain ⟨xs, ow, fin⟩ := put_pf (q := .mk [] F (1 + xx * 3) [] []) HS.out (Fp).bw hst ⟨rfl, rfl⟩ (Fp).ht (Fp).hs; rw [HNN.out] at ow fin; have OW := Lib.hid ow; have FIN := Lib.hid fin; clear ow fin; have SZ : Hid (w.heap.size + 1 ≤ w1.heap.size) := Nat.le_trans HS.out.base (Fp).bw.size; clear hst b1 Fp)
          | (at_builtin; refine wpList_append_own_at _ rfl _ _ 50 rfl (w.heap.size + 1) 53 i0 (.agg #[.string ⟨#[]⟩, .int .u8 0, .string ⟨#[]⟩, .slice none 0 0, .slice none 0 0, .int .i64 0, .slice none 0 0, .slice none 0 0]) 8 144 Tryz.underlying50 hi0 hz0 hs0 hb0 rfl (by decide) _ N xs rfl OW.out ⟨w1.heap.size, 0, none⟩ 1 1 [str [], .int .u8 F.op, str F.name, .slice fa fn fc, .slice fb fm fd, .int .i64 (1 + (xx : Int) * 3), .slice none 0 0, .slice none 0 0] rfl rfl (news8 _ _ _ _ _ _ _ _ _ _) oneCells8 (by unfold maxLen; omega) (by omega) (by have := SZ.out; simp; omega) ?_; intro v5 w5 hown5 hg5 _ hat5; have F5 := Lib.hid (FIN.out v5 w5 hown5 hg5 hat5); clear hown5 hg5 hat5))
        go_meet
        exact F5.out
      ·
        have hi : (xx : Int) % 4 = 1 := by omega
        clear hMM
        have hst : pFold l (k + 1) = pFold l k ++ [.mk hole F 0 [] []] := by rw [HST.out, ← HFE.out]; unfold pStep; rw [if_neg (by omega), if_pos hm]
        obtain ⟨xs, ow, fin⟩ := put_pf (q := .mk hole F 0 [] []) HS.out (HF.out).bw hst ⟨rfl, rfl⟩ (HF.out).ht (HF.out).hs; rw [HNN.out] at ow fin; have OW := Lib.hid ow; have FIN := Lib.hid fin; clear ow fin; have SZ : Hid (w.heap.size + 1 ≤ wc.heap.size) := Nat.le_trans HS.out.base (HF.out).bw.size
        clear hst hm
        go_wp2_with (at_builtin; refine wpList_append_own_at _ rfl _ _ 50 rfl (w.heap.size + 1) 53 i0 (.agg #[.string ⟨#[]⟩, .int .u8 0, .string ⟨#[]⟩, .slice none 0 0, .slice none 0 0, .int .i64 0, .slice none 0 0, .slice none 0 0]) 8 144 Tryz.underlying50 hi0 hz0 hs0 hb0 rfl (by decide) _ N xs rfl OW.out ⟨wc.heap.size, 0, none⟩ 1 1 [str hole, .int .u8 F.op, str F.name, .slice fa fn fc, .slice fb fm fd, .int .i64 0, .slice none 0 0, .slice none 0 0] rfl rfl (news8 _ _ _ _ _ _ _ _ _ _) oneCells8 (by unfold maxLen; omega) (by omega) (by have := SZ.out; simp; omega) ?_; intro v5 w5 hown5 hg5 _ hat5; have F5 := Lib.hid (FIN.out v5 w5 hown5 hg5 hat5); clear hown5 hg5 hat5)
        go_meet
        exact F5.out
      · have hi : ((xx : Int) % 4 == 0) = false := beq_eq_false_iff_ne.2 (by omega)
        have hi' : ((xx : Int) % 4 == 1) = false := beq_eq_false_iff_ne.2 (by omega)
        have HM := Lib.hid (And.intro hm hm')
        clear hm hm'
        by_cases hM : M ≤ N
        · have hM1 : (M : Int) ≤ N := by omega
          obtain ⟨jj, hjj⟩ : ∃ jj, xx % 3 = jj := ⟨_, rfl⟩
          have jz : (xx : Int) % 3 = jj := by omega
          have jz2 : (xx : Int).tmod 3 = jj := by rw [Int.tmod_eq_emod_of_nonneg x0]; exact jz
          have jz3 : (jj : Int) < 3 := by omega
          have jz4 : (0 : Int) ≤ jj := by omega
          obtain ⟨rn, hrn⟩ : ∃ rn, ruleOf jj = rn := ⟨_, rfl⟩
          have hsel : ([.string ⟨#[97, 110, 100, 73]⟩, .string ⟨#[114, 50]⟩, .string ⟨#[81]⟩] : List Value)[jj]? = some (str rn) := by
            rw [← hrn]; rcases (show jj = 0 ∨ jj = 1 ∨ jj = 2 by omega) with rfl | rfl | rfl <;> rfl
          have HJ := Lib.hid (And.intro hjj (And.intro hrn hMM))
          clear hjj hrn hMM
          go_upto_region 13 with fail
          obtain ⟨wF, hwF⟩ : ∃ wF, wF = wc := ⟨_, rfl⟩
          subst hwF
          go_cut [9] from 73 to 79 (fun u9 wx => ∃ pb, u9 = one pb ∧ Hid (Below wF.heap.size wF wx ∧ wF.heap.size ≤ pb ∧ wx.heap[pb]? = some (.cells #[str rn, .int .u8 F.op, str F.name, .slice fa fn fc, .slice fb fm fd, .int .i64 0, .slice none 0 0, .slice none 0 0] 53 (0, 0))))
          case first =>
            refine wp_region_held_drew (S := fun w' => Keeps wF w') (by kernel_rfl) (keeps_drewn wF) (fun hHeld => ?_)
            refine wpAnyH_take (i := 1) (v := ?_) rfl (by kernel_rfl) (by kernel_rfl) (by kernel_rfl) (fun _ _ _ h => h) (Or.inl ⟨by rfl, ?_⟩) (by assumption) ?_
            rotate_left
            · (intro w hSw; go_simp; (try with_reducible rfl))
            try simp only [Act.put, List.getElem_toArray, List.getElem_cons_succ, List.getElem_cons_zero, List.setIfInBounds_toArray, List.set_cons_zero, List.set_cons_succ]
            refine wpAnyH_take (i := 2) (v := ?_) rfl (by kernel_rfl) (by kernel_rfl) (by kernel_rfl) (fun _ _ _ h => h) (Or.inl ⟨by rfl, ?_⟩) (by assumption) ?_
            rotate_left
            · (intro w hSw; go_simp; (try with_reducible rfl))
            try simp only [Act.put, List.getElem_toArray, List.getElem_cons_succ, List.getElem_cons_zero, List.setIfInBounds_toArray, List.set_cons_zero, List.set_cons_succ]
            refine wpAnyH_take (i := 5) (v := ?_) rfl (by kernel_rfl) (by kernel_rfl) (by kernel_rfl) (fun _ _ _ h => h) (Or.inl ⟨by rfl, ?_⟩) (by assumption) ?_
            rotate_left
            · (intro w hSw; have := hSw _ _ f0; have := hSw _ _ f1; have := hSw _ _ f2; have := hSw _ _ f3; go_simp; (try with_reducible rfl))
            try simp only [Act.put, List.getElem_toArray, List.getElem_cons_succ, List.getElem_cons_zero, List.setIfInBounds_toArray, List.set_cons_zero, List.set_cons_succ]
            refine wpAnyH_ready (rs := [0, 7]) (by kernel_rfl) (by simp) ?_
            refine AllReadyH.cons rfl (fun K hK => ?_) ?_
            · go_simp
              refine hK.out _ _ (keeps_of_below (((Below.refl _ _).alloc (Nat.le_refl _) _).drew)) (fun hHeld1 => ?_)
              clear hK K
              try simp only [Act.put, List.setIfInBounds_toArray, List.set_cons_zero, List.set_cons_succ]
              refine held_now' hHeld1 (fun hHeld2 => ?_)
              refine wpAnyH_take (i := 3) (v := ?_) rfl (by kernel_rfl) (by kernel_rfl) (by kernel_rfl) (fun _ _ _ h => h) (Or.inl ⟨by rfl, ?_⟩) (by assumption) ?_
              rotate_left
              · (intro w hSw; go_simp; (try with_reducible rfl))
              try simp only [Act.put, List.getElem_toArray, List.getElem_cons_succ, List.getElem_cons_zero, List.setIfInBounds_toArray, List.set_cons_zero, List.set_cons_succ]
              refine wpAnyH_take (i := 4) (v := ?_) rfl (by kernel_rfl) (by kernel_rfl) (by kernel_rfl) (fun _ _ _ h => h) (Or.inl ⟨by rfl, ?_⟩) (by assumption) ?_
              rotate_left
              · (intro w hSw; have hl := hSw ⟨wF.heap.size, jj, none⟩ (str rn) ((box_cell (heap_alloc_new wF _) jj).trans (by simpa using hsel)); go_simp; (try with_reducible rfl))
              try simp only [Act.put, List.getElem_toArray, List.getElem_cons_succ, List.getElem_cons_zero, List.setIfInBounds_toArray, List.set_cons_zero, List.set_cons_succ]
              refine wpAnyH_take (i := 6) (v := ?_) rfl (by kernel_rfl) (by kernel_rfl) (by kernel_rfl) (fun _ _ _ h => h) (Or.inl ⟨by rfl, ?_⟩) (by assumption) ?_
              rotate_left
              · (intro w hSw; go_simp; (try with_reducible rfl))
              try simp only [Act.put, List.getElem_toArray, List.getElem_cons_succ, List.getElem_cons_zero, List.setIfInBounds_toArray, List.set_cons_zero, List.set_cons_succ]
              refine wpAnyH_ready (rs := [7]) (by kernel_rfl) (by simp) ?_
              refine AllReadyH.cons rfl (fun K hK => ?_) AllReadyH.nil
              go_simp
              refine hK.out _ _ (by exact keeps_of_below ((Below.refl _ _).alloc (Nat.le_refl _) _)) (fun hHeld3 => ?_)
              clear hK K
              try simp only [Act.put, List.setIfInBounds_toArray, List.set_cons_zero, List.set_cons_succ]
              refine wpAnyH_ready (rs := [8]) (by kernel_rfl) (by simp) ?_
              refine AllReadyH.cons rfl (fun K hK => ?_) AllReadyH.nil
              go_simp
              refine hK.out _ _ (by first | exact keeps_of_below ((Below.refl _ _).alloc (Nat.le_refl _) _) | exact keeps_of_below (((Below.refl _ _).alloc (Nat.le_refl _) _).drew) | exact Keeps.refl _) (fun hHeld4 => ?_)
              clear hK K
              try simp only [Act.put, List.setIfInBounds_toArray, List.set_cons_zero, List.set_cons_succ]
              refine wpAnyH_done (by kernel_rfl) ?_ _
              go_wp2_with fail
              go_meet
              exact ⟨_, rfl, (((Below.refl _ _).alloc (Nat.le_refl _) _).alloc (by simp) _).drew, by omega, kd (heap_alloc2_new _ _ _)⟩
            · refine AllReadyH.cons rfl (fun K hK => ?_) AllReadyH.nil
              go_simp
              refine hK.out _ _ (keeps_of_below (((Below.refl _ _).alloc (Nat.le_refl _) _).drew)) (fun hHeld1 => ?_)
              clear hK K
              try simp only [Act.put, List.setIfInBounds_toArray, List.set_cons_zero, List.set_cons_succ]
              refine wpAnyH_ready (rs := [0]) (by kernel_rfl) (by simp) ?_
              refine AllReadyH.cons rfl (fun K hK => ?_) AllReadyH.nil
              go_simp
              refine hK.out _ _ (keeps_of_below ((((Below.refl _ _).alloc (Nat.le_refl _) _).alloc (by simp) _).drew)) (fun hHeld3 => ?_)
              clear hK K
              try simp only [Act.put, List.setIfInBounds_toArray, List.set_cons_zero, List.set_cons_succ]
              have hS2 : (fun w' => Keeps wF w' ∧ w'.heap[wF.heap.size + 1]? = some (.cells #[.string ⟨#[97, 110, 100, 73]⟩, .string ⟨#[114, 50]⟩, .string ⟨#[81]⟩] 9 (0, 0))) ((wF.alloc (.cells #[.string ⟨#[]⟩, .int .u8 0, .string ⟨#[]⟩, .slice none 0 0, .slice none 0 0, .int .i64 0, .slice none 0 0, .slice none 0 0] 53)).alloc (.cells #[.string ⟨#[97, 110, 100, 73]⟩, .string ⟨#[114, 50]⟩, .string ⟨#[81]⟩] 9)).drew := ⟨hHeld3, kd (heap_alloc2_new _ _ _)⟩
              refine held_mono' (S' := (fun w' => Keeps wF w' ∧ w'.heap[wF.heap.size + 1]? = some (.cells #[.string ⟨#[97, 110, 100, 73]⟩, .string ⟨#[114, 50]⟩, .string ⟨#[81]⟩] 9 (0, 0)))) (fun _ k => k.1) _ _ _ _ ?_
              refine wpAnyH_take (i := 3) (v := ?_) rfl (by kernel_rfl) (by kernel_rfl) (by kernel_rfl) (fun _ _ _ h => h) (Or.inl ⟨by rfl, ?_⟩) (by assumption) ?_
              rotate_left
              · (intro w hSw; go_simp; (try with_reducible rfl))
              try simp only [Act.put, List.getElem_toArray, List.getElem_cons_succ, List.getElem_cons_zero, List.setIfInBounds_toArray, List.set_cons_zero, List.set_cons_succ]
              refine wpAnyH_take (i := 4) (v := ?_) rfl (by kernel_rfl) (by kernel_rfl) (by kernel_rfl) (fun _ _ _ h => h) (Or.inl ⟨by rfl, ?_⟩) (by assumption) ?_
              rotate_left
              · (intro w hSw; have hl := (box_cell hSw.2 jj).trans (show _ = some (str rn) by simpa using hsel); go_simp; (try with_reducible rfl))
              try simp only [Act.put, List.getElem_toArray, List.getElem_cons_succ, List.getElem_cons_zero, List.setIfInBounds_toArray, List.set_cons_zero, List.set_cons_succ]
              refine wpAnyH_take (i := 6) (v := ?_) rfl (by kernel_rfl) (by kernel_rfl) (by kernel_rfl) (fun _ _ _ h => h) (Or.inl ⟨by rfl, ?_⟩) (by assumption) ?_
              rotate_left
              · (intro w hSw; go_simp; (try with_reducible rfl))
              try simp only [Act.put, List.getElem_toArray, List.getElem_cons_succ, List.getElem_cons_zero, List.setIfInBounds_toArray, List.set_cons_zero, List.set_cons_succ]
              refine wpAnyH_ready (rs := [8]) (by kernel_rfl) (by simp) ?_
              refine AllReadyH.cons rfl (fun K hK => ?_) AllReadyH.nil
              go_simp
              refine hK.out _ _ ⟨keeps_of_below ((((Below.refl _ _).alloc (Nat.le_refl _) _).alloc (by simp) _).drew), kd (heap_alloc2_new _ _ _)⟩ (fun hHeld4 => ?_)
              clear hK K
              try simp only [Act.put, List.setIfInBounds_toArray, List.set_cons_zero, List.set_cons_succ]
              refine wpAnyH_done (by kernel_rfl) ?_ _
              go_wp2_with fail
              go_meet
              exact ⟨_, rfl, (((Below.refl _ _).alloc (Nat.le_refl _) _).alloc (by simp) _).drew, by omega, kd (heap_alloc2_old _ _ _)⟩
          case rest =>
          obtain ⟨pb, rfl, HI⟩ := hcut
          have HI0 : Hid (IR w wb wF l k sa N sc M xx pb rn F fa fn fc fb fm fd 0 0 (.slice none 0 0) (.slice none 0 0) wc) := IR.first HI.out.1 HI.out.2.1 HI.out.2.2
          clear HI f0 f1 f2 f3 hsel jz jz2 jz3 jz4 hi hi'
          obtain ⟨D, hD⟩ : ∃ D, N - M = D := ⟨_, rfl⟩
          have HD := Lib.hid hD
          have dz : (N : Int) - M = D := by omega
          have dw : IntKind.i64.wrap (D : Int) = D := IntWalk.i64_in _ (by omega)
          have hst : Hid (pFold l (k + 1) = (pFold l k).take (N - M) ++ [.mk rn F 0 ((pFold l k).drop (N - M)) ((List.range M).map (marksOf xx))]) := by
            obtain ⟨j1, j2, j3⟩ := HJ.out
            rw [Hid, HST.out]; unfold pStep
            rw [if_neg HM.out.1, if_neg HM.out.2, j3, if_pos (by rw [HNN.out]; exact hM), HNN.out, HFE.out, j1, j2]
          clear hD
          go_wp2_with fail
          go_loopw [10] (fun u10 wq => ∃ i : Nat, i ≤ M ∧ u10 = .int .i64 (i : Int) ∧ Hid (∃ v6 v7, IR w wb wF l k sa N sc M xx pb rn F fa fn fc fb fm fd i i v6 v7 wq)) (fun u10 _ => M - (intOf u10).toNat)
          case atStart => exact ⟨0, by omega, rfl, ⟨_, _, HI0.out⟩⟩
          case round =>
            obtain ⟨i, hi, rfl, HI⟩ := hrel
            obtain ⟨v6, v7, I0⟩ := HI.out
            obtain ⟨xs6, ho6, -⟩ := I0.o6
            obtain ⟨a6, c6, rfl⟩ := row_form ho6
            obtain ⟨a7, c7, rfl, -⟩ := I0.o7.form
            have I := Lib.hid I0
            clear HI ho6 I0
            obtain ⟨x0', x1', x2', x3', x4', x5', x6', x7'⟩ := row53 I.out.cell
            have zp := I.out.ltp
            by_cases hlt : i < M
            · obtain ⟨p, hp⟩ := get_of_lt (l := pFold l k) (j := D + i) (by have := HNN.out; have := HD.out; omega)
              obtain ⟨g, ea, en, ec, eb, em, ed, es, esn, esc, eq, eqn, eqc, hsg, hg, E⟩ := p_elem HS.out hp
              obtain ⟨j, hj⟩ : ∃ j, D + i = j := ⟨_, rfl⟩
              rw [hj] at E
              have HP := Lib.hid hp
              have HE := Lib.hid E
              have HJD := Lib.hid hj
              have BW : Below wb.heap.size wb wr := belowThen HF.out.bw I.out.bw
              have KW := keeps_of_below BW
              have e0 := KW _ _ E.c0
              have e1 := KW _ _ E.c1
              have e2 := KW _ _ E.c2
              have e3 := KW _ _ E.c3
              have e4 := KW _ _ E.c4
              have e5 := KW _ _ E.c5
              have e6 := KW _ _ E.c6
              have e7 := KW _ _ E.c7
              have zg : g < wr.heap.size := Nat.lt_of_lt_of_le hg BW.size
              have gb : ∀ b', (Value.slice a6 i c6).ownBlock = some b' → g ≠ b' := fun b' e => by have := (I.out.lt6 b' e).1; have := I.out.hp; have := HF.out.bw.size; omega
              have GB := Lib.hid gb
              have jz : (D : Int) + i = j := by omega
              have jw : IntKind.i64.wrap (j : Int) = j := IntWalk.i64_in _ (by omega)
              have j0' : (0 : Int) ≤ j := by omega
              have j1' : (j : Int) < N := by have := HD.out; omega
              have i1' : (i : Int) < M := by omega
              obtain rfl := hsg
              clear gb hp E hj KW BW
              go_upto_region 17 with fail
              go_cut [] from 85 to 97 (fun wx => Hid (∃ v6', IR w wb wF l k (some ⟨g, 0, none⟩) N sc M xx pb rn F fa fn fc fb fm fd (i + 1) i v6' (.slice a7 i c7) wx))
              case rest =>
                obtain ⟨v6', I6⟩ := hcut.out
                obtain ⟨xs6', ho6', -⟩ := I6.o6
                obtain ⟨a6', c6', rfl⟩ := row_form ho6'
                have HI6 := Lib.hid I6
                obtain ⟨w6, hw6⟩ : ∃ w6, w6 = wc := ⟨_, rfl⟩
                subst hw6
                clear ho6' I6 x0' x1' x2' x3' x4' x5' x6' x7' zp e0 e1 e2 e3 e4 e5 e6 e7 zg jz jw j0' j1' HP HE GB HJD
                obtain ⟨J, hJ⟩ : ∃ J, (xx + i) % 4 = J := ⟨_, rfl⟩
                have HJJ := Lib.hid hJ
                have Jz : ((xx : Int) + i) % 4 = J := by omega
                have J4 : J ≤ 3 := by omega
                have i0' : (0 : Int) ≤ i := by omega
                clear hJ
                go_wp2_with fail
                go_loopw [11, 12] (fun u11 u12 wq => ∃ jx : Nat, jx ≤ J ∧ u12 = .int .i64 (jx : Int) ∧ Hid (MR w6 xx i jx u11 wq)) (fun _ u12 _ => J - (intOf u12).toNat)
                case atStart => exact ⟨0, by omega, rfl, ⟨Below.refl _ _, World.ownsRow_nil _ _ _ _⟩⟩
                case round =>
                  obtain ⟨jx, hjx, rfl, R⟩ := hrel
                  obtain ⟨am, cm, rfl⟩ := row_form R.out.2
                  by_cases hlt2 : jx < J
                  · obtain ⟨pq, hpq⟩ : ∃ pq, xx * jx = pq := ⟨_, rfl⟩
                    have pz : (xx : Int) * jx = pq := by rw [← hpq]; simp
                    have pb0 : pq ≤ 768 := by rw [← hpq]; calc xx * jx ≤ 256 * 3 := Nat.mul_le_mul (by omega) (by omega)
                      _ = 768 := rfl
                    have pb1 : (0 : Int) ≤ pq := by omega
                    have pb2 : (pq : Int) ≤ 768 := by omega
                    have jx0 : (0 : Int) ≤ jx := by omega
                    have jx1 : (jx : Int) < J := by omega
                    have zz : ((pq : Int) * 7 + i) % 1000 = (((xx * jx * 7 + i) % 1000 : Nat) : Int) := by rw [hpq]; omega
                    have HPQ := Lib.hid hpq
                    have HBM : Hid (w6.heap.size ≤ wr.heap.size) := R.out.1.size
                    generalize hzv : (((xx * jx * 7 + i) % 1000 : Nat) : Int) = zv at zz
                    have HZV := Lib.hid hzv
                    clear hpq hzv
                    go_wp2_with (at_builtin; refine wpList_append_own_at _ rfl _ _ 29 rfl w6.heap.size 3 m0 (.int .i64 0) 1 8 Tryz.underlying29 hm0 hzm hsm hbm rfl (by decide) _ jx _ rfl (R.out.2.alloc _) ⟨wr.heap.size, 0, none⟩ 1 1 [.int .i64 zv] rfl rfl (cell_one_new _ _ _) (by intro u hu; simp at hu; subst hu; rfl) (by unfold maxLen; omega) (by omega) (by have := HBM.out; simp; omega) ?_; intro v5 w5 h5 hg5 _ _; rw [← HZV.out] at h5; have R5 := Lib.hid (MR.next R.out h5 hg5); clear h5 hg5)
                    go_roundw
                    case rel => exact ⟨jx + 1, by omega, by go_num, R5.out⟩
                    case measure => simp [intOf]; omega
                  · have hjJ : jx = (xx + i) % 4 := by rw [HJJ.out]; omega
                    have B1 : Below w6.heap.size w6 (wr.alloc (.cells #[.slice am jx cm] 29)) := (R.out.1.alloc R.out.1.size _)
                    have hmk := IR.mark (W1 := wr.alloc (.cells #[.slice am jx cm] 29)) (vm := .slice am jx cm) HI6.out B1 (MR.marks (by rw [← hjJ]; exact R.out) ((Below.refl _ _).alloc (Nat.le_refl _) _))
                    obtain ⟨xs7, ow, cw, fin⟩ := hmk
                    have OW := Lib.hid ow
                    have FIN := Lib.hid fin
                    have zp6 : Hid (pb + 1 ≤ wr.heap.size) := Nat.le_trans HI6.out.ltp R.out.1.size
                    obtain ⟨y0', y1', y2', y3', y4', y5', y6', y7'⟩ := row53 (HI6.out.below R.out.1).cell
                    clear ow cw fin hjJ B1
                    go_wp2_with (at_builtin; refine wpList_append_own_at _ rfl _ _ 51 rfl (pb + 1) 29 j0 (.slice none 0 0) 1 24 Tryz.underlying51 hj0 hzj hsj hbj rfl (by decide) _ i xs7 rfl OW.out ⟨wr.heap.size, 0, none⟩ 1 1 [.slice am jx cm] rfl rfl (cell_one_new _ _ _) (by intro u hu; simp at hu; subst hu; rfl) (by unfold maxLen; omega) (by omega) (by have := zp6.out; simp; omega) ?_; intro v5 w5 h5 hg5 _ hat5; obtain ⟨a5, c5, rfl⟩ := row_form h5; obtain ⟨⟨s7, t7⟩, I7⟩ := FIN.out _ _ h5 hg5 hat5; have HI7 := Lib.hid I7; clear I7 h5 hg5 hat5)
                    go_roundw
                    case rel => exact ⟨i + 1, by omega, by go_num, ⟨_, _, HI7.out⟩⟩
                    case measure => simp [intOf]; omega
              case first =>
              refine wp_region_held_drew (S := fun w' => w'.heap[g]? = wr.heap[g]?) (by kernel_rfl) rfl (fun hHeld => ?_)
              refine wpAnyH_take (i := 0) (v := ?_) rfl (by kernel_rfl) (by kernel_rfl) (by kernel_rfl) (fun _ _ _ h => h) (Or.inl ⟨by rfl, ?_⟩) (by assumption) ?_
              rotate_left
              · (intro w hSw; go_simp; (try with_reducible rfl))
              try simp only [Act.put, List.getElem_toArray, List.getElem_cons_succ, List.getElem_cons_zero, List.setIfInBounds_toArray, List.set_cons_zero, List.set_cons_succ]
              refine wpAnyH_take (i := 2) (v := ?_) rfl (by kernel_rfl) (by kernel_rfl) (by kernel_rfl) (fun _ _ _ h => h) (Or.inl ⟨by rfl, ?_⟩) (by assumption) ?_
              rotate_left
              · (intro w hSw; go_simp; (try with_reducible rfl))
              try simp only [Act.put, List.getElem_toArray, List.getElem_cons_succ, List.getElem_cons_zero, List.setIfInBounds_toArray, List.set_cons_zero, List.set_cons_succ]
              refine wpAnyH_take (i := 3) (v := ?_) rfl (by kernel_rfl) (by kernel_rfl) (by kernel_rfl) (fun _ _ _ h => h) (Or.inl ⟨by rfl, ?_⟩) (by assumption) ?_
              rotate_left
              · (intro w hSw; go_simp; (try with_reducible rfl))
              try simp only [Act.put, List.getElem_toArray, List.getElem_cons_succ, List.getElem_cons_zero, List.setIfInBounds_toArray, List.set_cons_zero, List.set_cons_succ]
              refine wpAnyH_take (i := 4) (v := ?_) rfl (by kernel_rfl) (by kernel_rfl) (by kernel_rfl) (fun _ _ _ h => h) (Or.inl ⟨by rfl, ?_⟩) (by assumption) ?_
              rotate_left
              · (intro w hSw; go_simp; (try with_reducible rfl))
              try simp only [Act.put, List.getElem_toArray, List.getElem_cons_succ, List.getElem_cons_zero, List.setIfInBounds_toArray, List.set_cons_zero, List.set_cons_succ]
              refine wpAnyH_take (i := 5) (v := ?_) rfl (by kernel_rfl) (by kernel_rfl) (by kernel_rfl) (fun _ _ _ h => h) (Or.inl ⟨by rfl, ?_⟩) (by assumption) ?_
              rotate_left
              · (intro w hSw; go_simp; (try with_reducible rfl))
              try simp only [Act.put, List.getElem_toArray, List.getElem_cons_succ, List.getElem_cons_zero, List.setIfInBounds_toArray, List.set_cons_zero, List.set_cons_succ]
              refine wpAnyH_take (i := 6) (v := ?_) rfl (by kernel_rfl) (by kernel_rfl) (by kernel_rfl) (fun _ _ _ h => h) (Or.inl ⟨by rfl, ?_⟩) (by assumption) ?_
              rotate_left
              · (intro w hSw; go_simp; (try with_reducible rfl))
              try simp only [Act.put, List.getElem_toArray, List.getElem_cons_succ, List.getElem_cons_zero, List.setIfInBounds_toArray, List.set_cons_zero, List.set_cons_succ]
              refine wpAnyH_take (i := 7) (v := ?_) rfl (by kernel_rfl) (by kernel_rfl) (by kernel_rfl) (fun _ _ _ h => h) (Or.inl ⟨by rfl, ?_⟩) (by assumption) ?_
              rotate_left
              · (intro w hSw; go_simp; (try with_reducible rfl))
              try simp only [Act.put, List.getElem_toArray, List.getElem_cons_succ, List.getElem_cons_zero, List.setIfInBounds_toArray, List.set_cons_zero, List.set_cons_succ]
              refine wpAnyH_take (i := 8) (v := ?_) rfl (by kernel_rfl) (by kernel_rfl) (by kernel_rfl) (fun _ _ _ h => h) (Or.inl ⟨by rfl, ?_⟩) (by assumption) ?_
              rotate_left
              · (intro w hSw; go_simp; (try with_reducible rfl))
              try simp only [Act.put, List.getElem_toArray, List.getElem_cons_succ, List.getElem_cons_zero, List.setIfInBounds_toArray, List.set_cons_zero, List.set_cons_succ]
              refine wpAnyH_take (i := 9) (v := ?_) rfl (by kernel_rfl) (by kernel_rfl) (by kernel_rfl) (fun _ _ _ h => h) (Or.inl ⟨by rfl, ?_⟩) (by assumption) ?_
              rotate_left
              · (intro w hSw; have := (World.cell?_of_block (a := ⟨g, j * 8, none⟩) hSw).trans e0; have := (World.cell?_of_block (a := ⟨g, j * 8 + 1, none⟩) hSw).trans e1; have := (World.cell?_of_block (a := ⟨g, j * 8 + 2, none⟩) hSw).trans e2; have := (World.cell?_of_block (a := ⟨g, j * 8 + 3, none⟩) hSw).trans e3; have := (World.cell?_of_block (a := ⟨g, j * 8 + 4, none⟩) hSw).trans e4; have := (World.cell?_of_block (a := ⟨g, j * 8 + 5, none⟩) hSw).trans e5; have := (World.cell?_of_block (a := ⟨g, j * 8 + 6, none⟩) hSw).trans e6; have := (World.cell?_of_block (a := ⟨g, j * 8 + 7, none⟩) hSw).trans e7; go_simp; (try with_reducible rfl))
              try simp only [Act.put, List.getElem_toArray, List.getElem_cons_succ, List.getElem_cons_zero, List.setIfInBounds_toArray, List.set_cons_zero, List.set_cons_succ]
              have hsub := IR.sub (W1 := (wr.alloc (.cells ([str p.rule, .int .u8 p.form.op, str p.form.name, .slice ea en ec, .slice eb em ed, .int .i64 p.label, .slice es esn esc, .slice eq eqn eqc]).toArray 53)).drew) (es := [str p.rule, .int .u8 p.form.op, str p.form.name, .slice ea en ec, .slice eb em ed, .int .i64 p.label, .slice es esn esc, .slice eq eqn eqc]) (v6' := .slice none 0 0) (w5 := wr) (ds := []) I.out (((Below.refl _ _).alloc (Nat.le_refl _) _).drew) (fun xs hx => by
                rw [pfsDs_next (p := p) (by rw [HD.out]; exact HP.out)]; exact hx.append HE.out.all)
              obtain ⟨xs, ow, cw, fin⟩ := hsub
              have OW := Lib.hid ow
              have CW := Lib.hid cw
              have FIN := Lib.hid fin
              have E8 : Hid (xs.length = i * 8) := ow.1
              clear ow cw fin
              refine wpAnyH_ready (rs := [1, 10]) (by kernel_rfl) (by simp) ?_
              refine AllReadyH.cons rfl (fun K hK => ?_) ?_
              · go_simp
                refine hK.out _ _ (hHeld) (fun hHeld1 => ?_)
                clear hK K
                try simp only [Act.put, List.getElem_toArray, List.getElem_cons_succ, List.getElem_cons_zero, List.setIfInBounds_toArray, List.set_cons_zero, List.set_cons_succ]
                refine wpAnyH_ready (rs := [10]) (by kernel_rfl) (by simp) ?_
                refine AllReadyH.cons rfl (fun K hK => ?_) AllReadyH.nil
                go_simp
                refine hK.out _ _ (heap_alloc_old _ _ zg) (fun hHeld2 => ?_)
                clear hK K
                try simp only [Act.put, List.getElem_toArray, List.getElem_cons_succ, List.getElem_cons_zero, List.setIfInBounds_toArray, List.set_cons_zero, List.set_cons_succ]
                refine wpAnyH_ready (rs := [11]) (by kernel_rfl) (by simp) ?_
                refine AllReadyH.cons rfl (fun K hK => ?_) AllReadyH.nil
                refine step_append_own rfl _ _ 50 rfl (pb + 1) 53 i0 (.agg #[.string ⟨#[]⟩, .int .u8 0, .string ⟨#[]⟩, .slice none 0 0, .slice none 0 0, .int .i64 0, .slice none 0 0, .slice none 0 0]) 8 144 Tryz.underlying50 hi0 hz0 hs0 hb0 rfl (by decide) _ i xs (by rfl) OW.out ⟨wr.heap.size, 0, none⟩ 1 1 [str p.rule, .int .u8 p.form.op, str p.form.name, .slice ea en ec, .slice eb em ed, .int .i64 p.label, .slice es esn esc, .slice eq eqn eqc] (by rfl) rfl (news8 _ _ _ _ _ _ _ _ _ _) oneCells8 (by unfold maxLen; omega) (by omega) (by simp; omega) ?_
                intro v5 w5 h5 hg5 hat5
                obtain ⟨a5, c5, rfl⟩ := row_form h5
                obtain ⟨⟨s6, t6⟩, I5⟩ := FIN.out _ _ h5 hg5 hat5
                have HI5 := Lib.hid I5
                have hk5 : w5.heap[g]? = wr.heap[g]? := (hg5.block g (by simp; omega) (fun e => GB.out g e.symm rfl)).trans (heap_alloc_old _ _ zg)
                clear I5 h5 hg5 hat5
                refine hK.out _ _ (hk5) (fun hHeld3 => ?_)
                clear hK K
                try simp only [Act.put, List.getElem_toArray, List.getElem_cons_succ, List.getElem_cons_zero, List.setIfInBounds_toArray, List.set_cons_zero, List.set_cons_succ]
                refine wpAnyH_take (i := 12) (v := ?_) rfl (by kernel_rfl) (by kernel_rfl) (by kernel_rfl) (fun _ _ _ h => h) (Or.inl ⟨by rfl, ?_⟩) (by assumption) ?_
                rotate_left
                · (intro w hSw; go_simp; (try with_reducible rfl))
                try simp only [Act.put, List.getElem_toArray, List.getElem_cons_succ, List.getElem_cons_zero, List.setIfInBounds_toArray, List.set_cons_zero, List.set_cons_succ]
                refine wpAnyH_ready (rs := [13]) (by kernel_rfl) (by simp) ?_
                refine AllReadyH.cons rfl (fun K hK => ?_) AllReadyH.nil
                go_simp
                refine hK.out _ _ ((Below.heap_setCell _ _ _ _ (fun e => by have := I.out.hp; have := HF.out.bw.size; have := hg; simp at e; omega)).trans hk5) (fun hHeld4 => ?_)
                clear hK K
                try simp only [Act.put, List.getElem_toArray, List.getElem_cons_succ, List.getElem_cons_zero, List.setIfInBounds_toArray, List.set_cons_zero, List.set_cons_succ]
                refine wpAnyH_done (by kernel_rfl) ?_ _
                go_wp2_with fail
                go_meet
                exact ⟨_, HI5.out⟩
              · refine AllReadyH.cons rfl (fun K hK => ?_) AllReadyH.nil
                go_simp
                refine hK.out _ _ (heap_alloc_old _ _ zg) (fun hHeld1 => ?_)
                clear hK K
                try simp only [Act.put, List.getElem_toArray, List.getElem_cons_succ, List.getElem_cons_zero, List.setIfInBounds_toArray, List.set_cons_zero, List.set_cons_succ]
                refine wpAnyH_ready (rs := [1]) (by kernel_rfl) (by simp) ?_
                refine AllReadyH.cons rfl (fun K hK => ?_) AllReadyH.nil
                go_simp
                refine hK.out _ _ (heap_alloc_old _ _ zg) (fun hHeld2 => ?_)
                clear hK K
                try simp only [Act.put, List.getElem_toArray, List.getElem_cons_succ, List.getElem_cons_zero, List.setIfInBounds_toArray, List.set_cons_zero, List.set_cons_succ]
                refine wpAnyH_ready (rs := [11]) (by kernel_rfl) (by simp) ?_
                refine AllReadyH.cons rfl (fun K hK => ?_) AllReadyH.nil
                refine step_append_own rfl _ _ 50 rfl (pb + 1) 53 i0 (.agg #[.string ⟨#[]⟩, .int .u8 0, .string ⟨#[]⟩, .slice none 0 0, .slice none 0 0, .int .i64 0, .slice none 0 0, .slice none 0 0]) 8 144 Tryz.underlying50 hi0 hz0 hs0 hb0 rfl (by decide) _ i xs (by rfl) OW.out ⟨wr.heap.size, 0, none⟩ 1 1 [str p.rule, .int .u8 p.form.op, str p.form.name, .slice ea en ec, .slice eb em ed, .int .i64 p.label, .slice es esn esc, .slice eq eqn eqc] (by rfl) rfl (news8 _ _ _ _ _ _ _ _ _ _) oneCells8 (by unfold maxLen; omega) (by omega) (by simp; omega) ?_
                intro v5 w5 h5 hg5 hat5
                obtain ⟨a5, c5, rfl⟩ := row_form h5
                obtain ⟨⟨s6, t6⟩, I5⟩ := FIN.out _ _ h5 hg5 hat5
                have HI5 := Lib.hid I5
                have hk5 : w5.heap[g]? = wr.heap[g]? := (hg5.block g (by simp; omega) (fun e => GB.out g e.symm rfl)).trans (heap_alloc_old _ _ zg)
                clear I5 h5 hg5 hat5
                refine hK.out _ _ (hk5) (fun hHeld3 => ?_)
                clear hK K
                try simp only [Act.put, List.getElem_toArray, List.getElem_cons_succ, List.getElem_cons_zero, List.setIfInBounds_toArray, List.set_cons_zero, List.set_cons_succ]
                refine wpAnyH_take (i := 12) (v := ?_) rfl (by kernel_rfl) (by kernel_rfl) (by kernel_rfl) (fun _ _ _ h => h) (Or.inl ⟨by rfl, ?_⟩) (by assumption) ?_
                rotate_left
                · (intro w hSw; go_simp; (try with_reducible rfl))
                try simp only [Act.put, List.getElem_toArray, List.getElem_cons_succ, List.getElem_cons_zero, List.setIfInBounds_toArray, List.set_cons_zero, List.set_cons_succ]
                refine wpAnyH_ready (rs := [13]) (by kernel_rfl) (by simp) ?_
                refine AllReadyH.cons rfl (fun K hK => ?_) AllReadyH.nil
                go_simp
                refine hK.out _ _ ((Below.heap_setCell _ _ _ _ (fun e => by have := I.out.hp; have := HF.out.bw.size; have := hg; simp at e; omega)).trans hk5) (fun hHeld4 => ?_)
                clear hK K
                try simp only [Act.put, List.getElem_toArray, List.getElem_cons_succ, List.getElem_cons_zero, List.setIfInBounds_toArray, List.set_cons_zero, List.set_cons_succ]
                refine wpAnyH_done (by kernel_rfl) ?_ _
                go_wp2_with fail
                go_meet
                exact ⟨_, HI5.out⟩
            · have hiM : i = M := by omega
              obtain ⟨hcap, hnone⟩ := own_cap HS.out
              have d1 : (0 : Int) ≤ D := by omega
              have d2 : (D : Int) ≤ sc := by omega
              have d3 : D ≤ sc := by omega
              have hdone := IR.done (M := M) (by rw [← hiM]; rw [← hiM] at I; exact I.out) HS.out HF.out HNN.out hM hst.out
              rw [HD.out] at hdone
              obtain ⟨olds, o1, o2, o3⟩ := hdone
              have OL := Lib.hid (And.intro o1 o2)
              have FIN := Lib.hid o3
              have HNO : Hid (sa = none → D = 0 ∧ D = 0) := fun e => by have := hnone e; omega
              have zpp := I.out.ltp
              clear o1 o2 o3 hnone hiM
              go_upto_region 24 with fail
              refine wp_region_held_drew (S := fun w' => w'.heap[pb]? = wr.heap[pb]?) (by kernel_rfl) rfl (fun hHeld => ?_)
              refine wpAnyH_take (i := 0) (v := ?_) rfl (by kernel_rfl) (by kernel_rfl) (by kernel_rfl) (fun _ _ _ h => h) (Or.inl ⟨by rfl, ?_⟩) (by assumption) ?_
              rotate_left
              · (intro w hSw; go_simp; (try with_reducible rfl))
              try simp only [Act.put, List.getElem_toArray, List.getElem_cons_succ, List.getElem_cons_zero, List.setIfInBounds_toArray, List.set_cons_zero, List.set_cons_succ]
              refine wpAnyH_take (i := 1) (v := ?_) rfl (by kernel_rfl) (by kernel_rfl) (by kernel_rfl) (fun _ _ _ h => h) (Or.inl ⟨by rfl, ?_⟩) (by assumption) ?_
              rotate_left
              · (intro w hSw; go_simp; (try with_reducible rfl))
              try simp only [Act.put, List.getElem_toArray, List.getElem_cons_succ, List.getElem_cons_zero, List.setIfInBounds_toArray, List.set_cons_zero, List.set_cons_succ]
              refine wpAnyH_take (i := 2) (v := ?_) rfl (by kernel_rfl) (by kernel_rfl) (by kernel_rfl) (fun _ _ _ h => h) (Or.inl ⟨by rfl, ?_⟩) (by assumption) ?_
              rotate_left
              · (intro w hSw; go_simp; (try with_reducible rfl))
              try simp only [Act.put, List.getElem_toArray, List.getElem_cons_succ, List.getElem_cons_zero, List.setIfInBounds_toArray, List.set_cons_zero, List.set_cons_succ]
              refine wpAnyH_take (i := 3) (v := ?_) rfl (by kernel_rfl) (by kernel_rfl) (by kernel_rfl) (fun _ _ _ h => h) (Or.inl ⟨by rfl, ?_⟩) (by assumption) ?_
              rotate_left
              · (intro w hSw; go_simp; (try with_reducible rfl))
              try simp only [Act.put, List.getElem_toArray, List.getElem_cons_succ, List.getElem_cons_zero, List.setIfInBounds_toArray, List.set_cons_zero, List.set_cons_succ]
              refine wpAnyH_take (i := 4) (v := ?_) rfl (by kernel_rfl) (by kernel_rfl) (by kernel_rfl) (fun _ _ _ h => h) (Or.inl ⟨by rfl, ?_⟩) (by assumption) ?_
              rotate_left
              · (intro w hSw; go_simp; (try with_reducible rfl))
              try simp only [Act.put, List.getElem_toArray, List.getElem_cons_succ, List.getElem_cons_zero, List.setIfInBounds_toArray, List.set_cons_zero, List.set_cons_succ]
              refine wpAnyH_take (i := 5) (v := ?_) rfl (by kernel_rfl) (by kernel_rfl) (by kernel_rfl) (fun _ _ _ h => h) (Or.inl ⟨by rfl, ?_⟩) (by assumption) ?_
              rotate_left
              · (intro w hSw; go_simp; (try with_reducible rfl))
              try simp only [Act.put, List.getElem_toArray, List.getElem_cons_succ, List.getElem_cons_zero, List.setIfInBounds_toArray, List.set_cons_zero, List.set_cons_succ]
              refine wpAnyH_take (i := 6) (v := ?_) rfl (by kernel_rfl) (by kernel_rfl) (by kernel_rfl) (fun _ _ _ h => h) (Or.inl ⟨by rfl, ?_⟩) (by assumption) ?_
              rotate_left
              · (intro w hSw; go_simp; (try with_reducible rfl))
              try simp only [Act.put, List.getElem_toArray, List.getElem_cons_succ, List.getElem_cons_zero, List.setIfInBounds_toArray, List.set_cons_zero, List.set_cons_succ]
              refine wpAnyH_take (i := 7) (v := ?_) rfl (by kernel_rfl) (by kernel_rfl) (by kernel_rfl) (fun _ _ _ h => h) (Or.inl ⟨by rfl, ?_⟩) (by assumption) ?_
              rotate_left
              · (intro w hSw; go_simp; (try with_reducible rfl))
              try simp only [Act.put, List.getElem_toArray, List.getElem_cons_succ, List.getElem_cons_zero, List.setIfInBounds_toArray, List.set_cons_zero, List.set_cons_succ]
              refine wpAnyH_take (i := 8) (v := ?_) rfl (by kernel_rfl) (by kernel_rfl) (by kernel_rfl) (fun _ _ _ h => h) (Or.inl ⟨by rfl, ?_⟩) (by assumption) ?_
              rotate_left
              · (intro w hSw; have := (World.cell?_of_block (a := ⟨pb, 0, none⟩) hSw).trans x0'; have := (World.cell?_of_block (a := ⟨pb, 1, none⟩) hSw).trans x1'; have := (World.cell?_of_block (a := ⟨pb, 2, none⟩) hSw).trans x2'; have := (World.cell?_of_block (a := ⟨pb, 3, none⟩) hSw).trans x3'; have := (World.cell?_of_block (a := ⟨pb, 4, none⟩) hSw).trans x4'; have := (World.cell?_of_block (a := ⟨pb, 5, none⟩) hSw).trans x5'; have := (World.cell?_of_block (a := ⟨pb, 6, none⟩) hSw).trans x6'; have := (World.cell?_of_block (a := ⟨pb, 7, none⟩) hSw).trans x7'; go_simp; (try with_reducible rfl))
              try simp only [Act.put, List.getElem_toArray, List.getElem_cons_succ, List.getElem_cons_zero, List.setIfInBounds_toArray, List.set_cons_zero, List.set_cons_succ]
              refine wpAnyH_ready (rs := [9]) (by kernel_rfl) (by simp) ?_
              refine AllReadyH.cons rfl (fun K hK => ?_) AllReadyH.nil
              go_simp
              refine hK.out _ _ (heap_alloc_old _ _ zpp) (fun hHeld2 => ?_)
              clear hK K
              try simp only [Act.put, List.getElem_toArray, List.getElem_cons_succ, List.getElem_cons_zero, List.setIfInBounds_toArray, List.set_cons_zero, List.set_cons_succ]
              refine wpAnyH_ready (rs := [10]) (by kernel_rfl) (by simp) ?_
              refine AllReadyH.cons rfl (fun K hK => ?_) AllReadyH.nil
              refine step_append_grows rfl _ _ 50 rfl 53 i0 (.agg #[.string ⟨#[]⟩, .int .u8 0, .string ⟨#[]⟩, .slice none 0 0, .slice none 0 0, .int .i64 0, .slice none 0 0, .slice none 0 0]) 8 144 Tryz.underlying50 hi0 hz0 hs0 hb0 rfl (by decide) sa D D olds (by rfl) HNO.out OL.out.1 OL.out.2 ⟨wr.heap.size, 0, none⟩ 1 1 [str rn, .int .u8 F.op, str F.name, .slice fa fn fc, .slice fb fm fd, .int .i64 0, .slice a6 i c6, .slice a7 i c7] (by rfl) rfl (news8 _ _ _ _ _ _ _ _ _ _) oneCells8 (by omega) (by unfold maxLen; omega) (by omega) ?_
              intro v5 w5 h5 hg5
              have F5 := Lib.hid (FIN.out v5 w5 h5 ⟨hg5.os, hg5.tape, hg5.output, hg5.size, hg5.block⟩)
              refine hK.out _ _ ((hg5.block pb (by simp; omega) (by simp)).trans (heap_alloc_old _ _ zpp)) (fun hHeld3 => ?_)
              clear hK K h5 hg5
              try simp only [Act.put, List.getElem_toArray, List.getElem_cons_succ, List.getElem_cons_zero, List.setIfInBounds_toArray, List.set_cons_zero, List.set_cons_succ]
              refine wpAnyH_take (i := 11) (v := ?_) rfl (by kernel_rfl) (by kernel_rfl) (by kernel_rfl) (fun _ _ _ h => h) (Or.inl ⟨by rfl, ?_⟩) (by assumption) ?_
              rotate_left
              · (intro w hSw; go_simp; (try with_reducible rfl))
              try simp only [Act.put, List.getElem_toArray, List.getElem_cons_succ, List.getElem_cons_zero, List.setIfInBounds_toArray, List.set_cons_zero, List.set_cons_succ]
              refine wpAnyH_done (by kernel_rfl) ?_ _
              go_wp2_with fail
              go_meet
              exact F5.out
        · have hM1 : decide ((M : Int) ≤ N) = false := by simp; omega
          have hM2 : ¬ (M : Int) ≤ N := by omega
          have hsame : Hid (pFold l (k + 1) = pFold l k) := by
            rw [Hid, HST.out]; unfold pStep
            rw [if_neg HM.out.1, if_neg HM.out.2, hMM, if_neg (by rw [HNN.out]; exact hM)]
          have F5 := Lib.hid (PRel.same HS.out HF.out.bw hsame.out)
          clear hMM
          go_wp2_with fail
          go_meet
          exact F5.out
    · obtain ⟨w9, hw9⟩ : ∃ w9, w9 = wr := ⟨_, rfl⟩
      subst hw9
      have HB := Lib.hid (proved_at l n k HN.out hk hk2 hlt)
      obtain ⟨sa, sc, rfl, hsc⟩ := hs.out.own.form
      have hN : (pFold l k).length ≤ k := (pFold_inv l k).1
      generalize hNN : (pFold l k).length = N at hN hs ⊢
      have HNN := Lib.hid hNN
      have N30 : N ≤ 30 := by omega
      have k0 : (0 : Int) ≤ k := by omega
      clear hNN
      have HR := Lib.hid hs.out.res
      have HS := Lib.hid hs.out
      have zw : w.heap.size < w9.heap.size := (Array.getElem?_eq_some_iff.1 hs.out.res).1
      clear hs
      rcases Nat.eq_zero_or_pos N with hz | hz
      · subst hz
        have HQ : Hid (proved l = dummyPf) := by rw [Hid, HB.out, List.eq_nil_of_length_eq_zero HNN.out]; rfl
        rcases (show ¬ k < n ∨ (k < n ∧ ¬ k < 30) by omega) with h20 | ⟨h20, h21⟩
        all_goals
          go_wp2_with (first
            | (go_at_call 47; refine (join41_x _ _ _ _ _).mono ?_; rintro e w1 ⟨rfl, b1⟩)
            | (go_at_call 60; refine (leaf41_x _ _ _ _ _ _ _ _ _ _).mono ?_; rintro e w2 ⟨rfl, b2⟩; have B2 := Lib.hid (belowThen b1 b2); obtain ⟨q0, q1, q2, q3, q4, q5, q6, q7⟩ := row53 (kc B2.out HR.out); obtain ⟨l0, l1, l2, l3, l4, l5, l6, l7⟩ := row53f (kc B2.out HR.out); clear b1 b2))
          exact proved_end (p := dummyPf) (belowThen HS.out.bw B2.out) (kc B2.out HR.out) (At.sl_nil (Nat.zero_le _)) (At.sl_nil (Nat.zero_le _)) (At.sl_nil (Nat.zero_le _)) (At.sl_nil (Nat.zero_le _)) HQ.out rfl
      · obtain ⟨p, hp, hlast⟩ := last_get HNN.out hz
        obtain ⟨g, ea, en, ec, eb, em, ed, es, esn, esc, eq, eqn, eqc, hsg, hg, E⟩ := p_elem HS.out hp
        obtain ⟨j, hj⟩ : ∃ j, N - 1 = j := ⟨_, rfl⟩
        rw [hj] at E
        obtain rfl := hsg
        have HQ : Hid (proved l = p) := by rw [Hid, HB.out, hlast]
        have HE := Lib.hid E
        have e0 := E.c0
        have e1 := E.c1
        have e2 := E.c2
        have e3 := E.c3
        have e4 := E.c4
        have e5 := E.c5
        have e6 := E.c6
        have e7 := E.c7
        have jz : (N : Int) - 1 = j := by omega
        have jw : IntKind.i64.wrap (j : Int) = j := IntWalk.i64_in _ (by omega)
        have j0 : (0 : Int) ≤ j := by omega
        have j1 : (j : Int) < N := by omega
        have hz2 : ((N : Int) == 0) = false := beq_eq_false_iff_ne.2 (by omega)
        have hz3 : ¬ N = 0 := by omega
        obtain ⟨q0, q1, q2, q3, q4, q5, q6, q7⟩ := row53 HR.out
        obtain ⟨l0, l1, l2, l3, l4, l5, l6, l7⟩ := row53f HR.out
        have K : Keeps (hide (qh w (some ⟨g, 0, none⟩) N sc) w9) (hide (lo1 w) w9) := qh_lo1 fun _ _ => rfl
        have HK := Lib.hid K
        clear hj E hp hlast K
        rcases (show ¬ k < n ∨ (k < n ∧ ¬ k < 30) by omega) with h20 | ⟨h20, h21⟩
        all_goals
          go_wp2_with fail
          exact proved_end (p := p) HS.out.bw HR.out (HE.out.h3.keep HK.out) (HE.out.h4.keep HK.out) (HE.out.h6.keep HK.out) (HE.out.h7.keep HK.out) HQ.out rfl
end Go.Proofs.YtcandidgaegghaaGreatDoor
