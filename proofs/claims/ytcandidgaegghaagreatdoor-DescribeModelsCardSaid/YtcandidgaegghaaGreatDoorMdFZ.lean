/- lyceumkit.LentModel. Conditions: at most a thousand functions; each list fits into memory. -/
import Derived.Test.YtcandidgaegghaaGreatDoorCpZ
import Derived.Test.YtcandidgaegghaaGreatDoorMdCZ
import Derived.Test.YtcandidgaegghaaGreatDoorSameBZ
import Derived.Lib.QuietBelow
import Derived.BigQuiet
set_option maxRecDepth 10000
set_option linter.unusedSimpArgs false
set_option linter.unusedVariables false
namespace Go.Proofs.YtcandidgaegghaaGreatDoor
open Go Go.RowKit Ly
set_option maxHeartbeats 1600000
structure MdAt (w : World) (m : Md) (ra : Option Addr) (rn rc : Nat) (fa : Option Addr) (fn fc : Nat) (ga : Option Addr) (gn gc : Nat) (ba : Option Addr) (bn bc : Nat) : Prop where
 rel : aM w 1 (inV m.rel) m.rel.length (.slice ra rn rc)
 facts : aM w 3 (fasV m.facts) m.facts.length (.slice fa fn fc)
 funcs : fZ w m.funcs (.slice ga gn gc)
 binds : aM w 2 (bisV m.binds) m.binds.length (.slice ba bn bc)
theorem MdAt.keep {w w' : World} {m : Md} {ra fa ga ba : Option Addr} {rn rc fn fc gn gc bn bc : Nat} (h : MdAt w m ra rn rc fa fn fc ga gn gc ba bn bc) (K : bI w w') : MdAt w' m ra rn rc fa fn fc ga gn gc ba bn bc :=
 ⟨h.rel.keep K,h.facts.keep K,h.funcs.keep K,h.binds.keep K⟩
abbrev mdV (m : Md) (ra : Option Addr) (rn rc : Nat) (fa : Option Addr) (fn fc : Nat) (ga : Option Addr) (gn gc : Nat) (ba : Option Addr) (bn bc : Nat) : Value :=
 .agg #[.int .u8 m.kind,.int .i64 m.size,.slice ra rn rc,.int .i64 m.loop,.slice fa fn fc,.slice ga gn gc,.slice ba bn bc]
structure zV (m : Md) : Prop where
 rel : m.rel.length * 8 ≤ 140737488351232
 facts : m.facts.length * 32 ≤ 140737488351232
 funcs : m.funcs.length ≤ 1000
 value : ∀ t ∈ m.funcs,t.value.length * 8 ≤ 140737488351232
 binds : m.binds.length * 24 ≤ 140737488351232
structure oB (w : World) (m : Md) (ra : Option Addr) (rn rc : Nat) (fa : Option Addr) (fn fc : Nat) (ga : Option Addr) (gn gc : Nat) (ba : Option Addr) (bn bc : Nat) : Prop where
 rel : cQ w 1 (inV m.rel) (marksOf kO 12) m.rel.length (.slice ra rn rc)
 facts : cQ w 3 (fasV m.facts) (marksOf pU 12) m.facts.length (.slice fa fn fc)
 funcs : iX w m.funcs (.slice ga gn gc)
 binds : cQ w 2 (bisV m.binds) (marksOf pR 12) m.binds.length (.slice ba bn bc)
theorem oB.keep {w w' : World} {m : Md} {ra fa ga ba : Option Addr} {rn rc fn fc gn gc bn bc : Nat} (h : oB w m ra rn rc fa fn fc ga gn gc ba bn bc) (K : bI w w') : oB w' m ra rn rc fa fn fc ga gn gc ba bn bc :=
 ⟨h.rel.keep K,h.facts.keep K,h.funcs.keep K,h.binds.keep K⟩
theorem oB.at {w : World} {m : Md} {ra fa ga ba : Option Addr} {rn rc fn fc gn gc bn bc : Nat} (h : oB w m ra rn rc fa fn fc ga gn gc ba bn bc) : MdAt w m ra rn rc fa fn fc ga gn gc ba bn bc :=
 ⟨h.rel.flat,h.facts.flat,h.funcs.at,h.binds.flat⟩
theorem u34m : ∃ fs,Tryz.prog.underlying 34 = some (.struct fs):=⟨_,Tryz.underlying34⟩
theorem i34m : (Tryz.prog.info? 34).map (·.size) = some 7:=by kernel_rfl
theorem res34 {fn : Func} {p : Tmp} (h : fn.results = #[.cell p 34]) (tmps : Array Value) (w : World) (g : Nat) (x0 x1 x2 x3 x4 x5 x6 : Value) (fr : Nat × Nat)
  (hp : tmps.getD p undef = one g) (hg : w.heap[g]? = some (.cells #[x0,x1,x2,x3,x4,x5,x6] 34 fr)) : (results fn tmps).run Tryz.prog w = .ok (.agg #[x0,x1,x2,x3,x4,x5,x6]) w:=by
 obtain ⟨fs,h1⟩:=u34m
 exact results_cell_row h tmps w g 34 #[x0,x1,x2,x3,x4,x5,x6] fr _ hp hg h1 rfl i34m
theorem aK {w : World} {b : Nat} {x0 x1 x2 x3 x4 x5 x6 : Value} (h : w.heap[b]? = some (.cells #[x0,x1,x2,x3,x4,x5,x6] 34 (0,0))) :
  (w.cell? ⟨b,0,none⟩ = some x0 ∧ w.cell? ⟨b,1,none⟩ = some x1 ∧ w.cell? ⟨b,2,none⟩ = some x2 ∧ w.cell? ⟨b,3,none⟩ = some x3 ∧ w.cell? ⟨b,4,none⟩ = some x4 ∧ w.cell? ⟨b,5,none⟩ = some x5 ∧ w.cell? ⟨b,6,none⟩ = some x6) ∧
   (w.frozen? ⟨b,0,none⟩ = false ∧ w.frozen? ⟨b,1,none⟩ = false ∧ w.frozen? ⟨b,2,none⟩ = false ∧ w.frozen? ⟨b,3,none⟩ = false ∧ w.frozen? ⟨b,4,none⟩ = false ∧ w.frozen? ⟨b,5,none⟩ = false ∧ w.frozen? ⟨b,6,none⟩ = false) :=
 ⟨⟨(aJ h 0).trans rfl,(aJ h 1).trans rfl,(aJ h 2).trans rfl,(aJ h 3).trans rfl,(aJ h 4).trans rfl,(aJ h 5).trans rfl,(aJ h 6).trans rfl⟩,
  ⟨by simp [World.frozen?,h],by simp [World.frozen?,h],by simp [World.frozen?,h],by simp [World.frozen?,h],by simp [World.frozen?,h],by simp [World.frozen?,h],by simp [World.frozen?,h]⟩⟩
def Past (n : Nat) (B F : World) : Prop:=B.heap.size ≤ F.heap.size ∧ ∀ i,n ≤ i → i < B.heap.size → F.heap[i]? = B.heap[i]?
theorem Past.below {n : Nat} {A B F : World} (h : Past n A B) (b : Below B.heap.size B F) : Past n A F :=
 ⟨Nat.le_trans h.1 b.size,fun i h1 h2=>(b.block i (Nat.lt_of_lt_of_le h2 h.1)).trans (h.2 i h1 h2)⟩
theorem Past.set {n : Nat} {A B : World} (h : Past n A B) {g o : Nat} (hg : g < n) (v : Value) : Past n A (B.setCell ⟨g,o,none⟩ v) :=
 ⟨by simp [World.setCell];exact h.1,fun i h1 h2=>(Below.heap_setCell _ _ _ _ (by simp;omega)).trans (h.2 i h1 h2)⟩
theorem Past.refl (n : Nat) (A : World) : Past n A A:=⟨Nat.le_refl _,fun _ _ _=>rfl⟩
theorem Past.keeps {n : Nat} {w A B F : World} (h : Past n B F) (hA : n ≤ A.heap.size) (hw : w.heap.size ≤ A.heap.size) : bI (hide (lo A) B) (hide (lo w) F) :=
 bP fun k h1 h2=>by
  simp only [lo,decide_eq_false_iff_not,Nat.not_lt] at h2 ⊢
  exact ⟨by omega,h.2 k (by omega) h1⟩
theorem lentModel_c (m : Md) (hf : zV m) (ra fa ga ba : Option Addr) (rn rc fn fc gn gc bn bc : Nat) (w : World) (hx : MdAt w m ra rn rc fa fn fc ga gn gc ba bn bc) :
  Calls Tryz.prog 15 #[mdV m ra rn rc fa fn fc ga gn gc ba bn bc] w fun e w'=>∃ rb rk rc' fb fk fc' gb gk gc' bb bk bc',e = .returned (mdV m (some ⟨rb,0,none⟩) rk rc' (some ⟨fb,0,none⟩) fk fc' (some ⟨gb,0,none⟩) gk gc' (some ⟨bb,0,none⟩) bk bc') ∧
   oB (hide (lo w) w') m (some ⟨rb,0,none⟩) rk rc' (some ⟨fb,0,none⟩) fk fc' (some ⟨gb,0,none⟩) gk gc' (some ⟨bb,0,none⟩) bk bc' ∧ Below w.heap.size w w':=by
 have A1 : Below w.heap.size w (w.alloc (.cells #[.int .u8 m.kind,.int .i64 m.size,.slice ra rn rc,.int .i64 m.loop,.slice fa fn fc,.slice ga gn gc,.slice ba bn bc] 34)):=bnew
 have HB : Hid (Below w.heap.size w ((w.alloc (.cells #[.int .u8 m.kind,.int .i64 m.size,.slice ra rn rc,.int .i64 m.loop,.slice fa fn fc,.slice ga gn gc,.slice ba bn bc] 34)).alloc (.cells #[.int .u8 0,.int .i64 0,.slice none 0 0,.int .i64 0,.slice none 0 0,.slice none 0 0,.slice none 0 0] 34))):=A1.alloc (by simp) _
 have G0 : Hid (((w.alloc (.cells #[.int .u8 m.kind,.int .i64 m.size,.slice ra rn rc,.int .i64 m.loop,.slice fa fn fc,.slice ga gn gc,.slice ba bn bc] 34)).alloc (.cells #[.int .u8 0,.int .i64 0,.slice none 0 0,.int .i64 0,.slice none 0 0,.slice none 0 0,.slice none 0 0] 34)).heap[w.heap.size]? = some (.cells #[.int .u8 m.kind,.int .i64 m.size,.slice ra rn rc,.int .i64 m.loop,.slice fa fn fc,.slice ga gn gc,.slice ba bn bc] 34 (0,0))):=kc bnew (heap_alloc_new w _)
 have G1 : Hid (((w.alloc (.cells #[.int .u8 m.kind,.int .i64 m.size,.slice ra rn rc,.int .i64 m.loop,.slice fa fn fc,.slice ga gn gc,.slice ba bn bc] 34)).alloc (.cells #[.int .u8 0,.int .i64 0,.slice none 0 0,.int .i64 0,.slice none 0 0,.slice none 0 0,.slice none 0 0] 34)).heap[w.heap.size + 1]? = some (.cells #[.int .u8 0,.int .i64 0,.slice none 0 0,.int .i64 0,.slice none 0 0,.slice none 0 0,.slice none 0 0] 34 (0,0))):=by
  have:=heap_alloc_new (w.alloc (.cells #[.int .u8 m.kind,.int .i64 m.size,.slice ra rn rc,.int .i64 m.loop,.slice fa fn fc,.slice ga gn gc,.slice ba bn bc] 34)) (.cells #[.int .u8 0,.int .i64 0,.slice none 0 0,.int .i64 0,.slice none 0 0,.slice none 0 0,.slice none 0 0] 34)
  rwa [World.size_alloc] at this
 have L1:=Hd hx.rel.len.1
 have L2:=Hd hx.facts.len.1
 have L3:=Hd hx.funcs.len.1
 have L4:=Hd hx.binds.len.1
 have R1 : Hid (∀ W,Below w.heap.size w W → Calls Tryz.prog 61 #[.slice ra rn rc] W fun e w'=>∃ b cap,e = .returned (.slice (some ⟨b,0,none⟩) rn cap) ∧ cQ (hide (lo W) w') 1 (inV m.rel) (marksOf kO 12) rn (.slice (some ⟨b,0,none⟩) rn cap) ∧ Below W.heap.size W w'):=fun W hW =>
  rR _ (yA _) _ hf.rel ra rn rc W (hx.rel.keep (aC hW))
 have R2 : Hid (∀ W,Below w.heap.size w W → Calls Tryz.prog 62 #[.slice fa fn fc] W fun e w'=>∃ b cap,e = .returned (.slice (some ⟨b,0,none⟩) fn cap) ∧ cQ (hide (lo W) w') 3 (fasV m.facts) (marksOf pU 12) fn (.slice (some ⟨b,0,none⟩) fn cap) ∧ Below W.heap.size W w'):=fun W hW =>
  lentFacts_c _ (fasV_one _) _ hf.facts fa fn fc W (hx.facts.keep (aC hW))
 have R3 : Hid (∀ W,Below w.heap.size w W → Calls Tryz.prog 63 #[.slice ga gn gc] W fun e w'=>∃ b cap,e = .returned (.slice (some ⟨b,0,none⟩) gn cap) ∧ iX (hide (lo W) w') m.funcs (.slice (some ⟨b,0,none⟩) gn cap) ∧ Below W.heap.size W w'):=fun W hW =>
  lentFuncs_c _ hf.funcs hf.value W ga gn gc (hx.funcs.keep (aC hW))
 have R4 : Hid (∀ W,Below w.heap.size w W → Calls Tryz.prog 64 #[.slice ba bn bc] W fun e w'=>∃ b cap,e = .returned (.slice (some ⟨b,0,none⟩) bn cap) ∧ cQ (hide (lo W) w') 2 (bisV m.binds) (marksOf pR 12) bn (.slice (some ⟨b,0,none⟩) bn cap) ∧ Below W.heap.size W w'):=fun W hW =>
  lentBinds_c _ (bisV_one _) _ hf.binds ba bn bc W (hx.binds.keep (aC hW))
 clear hx hf A1
 go_enter Tryz.func15,Tryz.ntmps15
 go_upto_region 2 with (go_at_call 61;refine (R1.out _ HB.out).mono ?_;rintro e w1 ⟨b1,k1,rfl,l1,v1⟩;have HL1:=Hd (And.intro l1 v1);have E1:=Hd (kc v1 G0.out);have F1:=Hd (kc v1 G1.out);have B1:=Hd (aA HB.out v1);clear l1 v1;obtain ⟨⟨c0,c1,c2,c3,c4,c5,c6⟩,f0,f1,f2,f3,f4,f5,f6⟩:=aK E1.out)
 have S1 : Hid ((w1.setCell ⟨w.heap.size,2,none⟩ (.slice (some ⟨b1,0,none⟩) rn k1)).heap[w.heap.size]? = some (.cells #[.int .u8 m.kind,.int .i64 m.size,.slice (some ⟨b1,0,none⟩) rn k1,.int .i64 m.loop,.slice fa fn fc,.slice ga gn gc,.slice ba bn bc] 34 (0,0))):=aQ (o:=2) (u:=.slice (some ⟨b1,0,none⟩) rn k1) E1.out
 have T1 : Hid ((w1.setCell ⟨w.heap.size,2,none⟩ (.slice (some ⟨b1,0,none⟩) rn k1)).heap[w.heap.size + 1]? = some (.cells #[.int .u8 0,.int .i64 0,.slice none 0 0,.int .i64 0,.slice none 0 0,.slice none 0 0,.slice none 0 0] 34 (0,0))):=(Below.heap_setCell _ _ _ _ (by simp)).trans F1.out
 have BW1 : Hid (Below w.heap.size w (w1.setCell ⟨w.heap.size,2,none⟩ (.slice (some ⟨b1,0,none⟩) rn k1))):=B1.out.setCell (by simp) _
 have P1 : Hid (Past (w.heap.size + 2) w1 (w1.setCell ⟨w.heap.size,2,none⟩ (.slice (some ⟨b1,0,none⟩) rn k1))):=(Past.refl _ _).set (by omega) _
 clear c0 c1 c2 c3 c4 c5 c6 f0 f1 f2 f3 f4 f5 f6
 generalize hW1 : w1.setCell ⟨w.heap.size,2,none⟩ (.slice (some ⟨b1,0,none⟩) rn k1) = W1 at *
 obtain ⟨⟨c0,c1,c2,c3,c4,c5,c6⟩,f0,f1,f2,f3,f4,f5,f6⟩:=aK S1.out
 go_upto_region 3 with (go_at_call 62;refine (R2.out _ BW1.out).mono ?_;rintro e w2 ⟨b2,k2,rfl,l2,v2⟩;have HL2:=Hd (And.intro l2 v2);have E2:=Hd (kc v2 S1.out);have F2:=Hd (kc v2 T1.out);have B2:=Hd (aA BW1.out v2);clear l2 v2;obtain ⟨⟨c0,c1,c2,c3,c4,c5,c6⟩,f0,f1,f2,f3,f4,f5,f6⟩:=aK E2.out)
 have S2 : Hid ((w2.setCell ⟨w.heap.size,4,none⟩ (.slice (some ⟨b2,0,none⟩) fn k2)).heap[w.heap.size]? = some (.cells #[.int .u8 m.kind,.int .i64 m.size,.slice (some ⟨b1,0,none⟩) rn k1,.int .i64 m.loop,.slice (some ⟨b2,0,none⟩) fn k2,.slice ga gn gc,.slice ba bn bc] 34 (0,0))):=aQ (o:=4) (u:=.slice (some ⟨b2,0,none⟩) fn k2) E2.out
 have T2 : Hid ((w2.setCell ⟨w.heap.size,4,none⟩ (.slice (some ⟨b2,0,none⟩) fn k2)).heap[w.heap.size + 1]? = some (.cells #[.int .u8 0,.int .i64 0,.slice none 0 0,.int .i64 0,.slice none 0 0,.slice none 0 0,.slice none 0 0] 34 (0,0))):=(Below.heap_setCell _ _ _ _ (by simp)).trans F2.out
 have BW2 : Hid (Below w.heap.size w (w2.setCell ⟨w.heap.size,4,none⟩ (.slice (some ⟨b2,0,none⟩) fn k2))):=B2.out.setCell (by simp) _
 have P2 : Hid (Past (w.heap.size + 2) w2 (w2.setCell ⟨w.heap.size,4,none⟩ (.slice (some ⟨b2,0,none⟩) fn k2))):=(Past.refl _ _).set (by omega) _
 have P1 : Hid (Past (w.heap.size + 2) w1 (w2.setCell ⟨w.heap.size,4,none⟩ (.slice (some ⟨b2,0,none⟩) fn k2))):=(P1.out.below HL2.out.2).set (by omega) _
 clear c0 c1 c2 c3 c4 c5 c6 f0 f1 f2 f3 f4 f5 f6
 generalize hW2 : w2.setCell ⟨w.heap.size,4,none⟩ (.slice (some ⟨b2,0,none⟩) fn k2) = W2 at *
 obtain ⟨⟨c0,c1,c2,c3,c4,c5,c6⟩,f0,f1,f2,f3,f4,f5,f6⟩:=aK S2.out
 go_upto_region 4 with (go_at_call 63;refine (R3.out _ BW2.out).mono ?_;rintro e w3 ⟨b3,k3,rfl,l3,v3⟩;have HL3:=Hd (And.intro l3 v3);have E3:=Hd (kc v3 S2.out);have F3:=Hd (kc v3 T2.out);have B3:=Hd (aA BW2.out v3);clear l3 v3;obtain ⟨⟨c0,c1,c2,c3,c4,c5,c6⟩,f0,f1,f2,f3,f4,f5,f6⟩:=aK E3.out)
 have S3 : Hid ((w3.setCell ⟨w.heap.size,5,none⟩ (.slice (some ⟨b3,0,none⟩) gn k3)).heap[w.heap.size]? = some (.cells #[.int .u8 m.kind,.int .i64 m.size,.slice (some ⟨b1,0,none⟩) rn k1,.int .i64 m.loop,.slice (some ⟨b2,0,none⟩) fn k2,.slice (some ⟨b3,0,none⟩) gn k3,.slice ba bn bc] 34 (0,0))):=aQ (o:=5) (u:=.slice (some ⟨b3,0,none⟩) gn k3) E3.out
 have T3 : Hid ((w3.setCell ⟨w.heap.size,5,none⟩ (.slice (some ⟨b3,0,none⟩) gn k3)).heap[w.heap.size + 1]? = some (.cells #[.int .u8 0,.int .i64 0,.slice none 0 0,.int .i64 0,.slice none 0 0,.slice none 0 0,.slice none 0 0] 34 (0,0))):=(Below.heap_setCell _ _ _ _ (by simp)).trans F3.out
 have BW3 : Hid (Below w.heap.size w (w3.setCell ⟨w.heap.size,5,none⟩ (.slice (some ⟨b3,0,none⟩) gn k3))):=B3.out.setCell (by simp) _
 have P3 : Hid (Past (w.heap.size + 2) w3 (w3.setCell ⟨w.heap.size,5,none⟩ (.slice (some ⟨b3,0,none⟩) gn k3))):=(Past.refl _ _).set (by omega) _
 have P1 : Hid (Past (w.heap.size + 2) w1 (w3.setCell ⟨w.heap.size,5,none⟩ (.slice (some ⟨b3,0,none⟩) gn k3))):=(P1.out.below HL3.out.2).set (by omega) _
 have P2 : Hid (Past (w.heap.size + 2) w2 (w3.setCell ⟨w.heap.size,5,none⟩ (.slice (some ⟨b3,0,none⟩) gn k3))):=(P2.out.below HL3.out.2).set (by omega) _
 clear c0 c1 c2 c3 c4 c5 c6 f0 f1 f2 f3 f4 f5 f6
 generalize hW3 : w3.setCell ⟨w.heap.size,5,none⟩ (.slice (some ⟨b3,0,none⟩) gn k3) = W3 at *
 obtain ⟨⟨c0,c1,c2,c3,c4,c5,c6⟩,f0,f1,f2,f3,f4,f5,f6⟩:=aK S3.out
 go_upto_region 5 with (go_at_call 64;refine (R4.out _ BW3.out).mono ?_;rintro e w4 ⟨b4,k4,rfl,l4,v4⟩;have HL4:=Hd (And.intro l4 v4);have E4:=Hd (kc v4 S3.out);have F4:=Hd (kc v4 T3.out);have B4:=Hd (aA BW3.out v4);clear l4 v4;obtain ⟨⟨c0,c1,c2,c3,c4,c5,c6⟩,f0,f1,f2,f3,f4,f5,f6⟩:=aK E4.out)
 have S4 : Hid ((w4.setCell ⟨w.heap.size,6,none⟩ (.slice (some ⟨b4,0,none⟩) bn k4)).heap[w.heap.size]? = some (.cells #[.int .u8 m.kind,.int .i64 m.size,.slice (some ⟨b1,0,none⟩) rn k1,.int .i64 m.loop,.slice (some ⟨b2,0,none⟩) fn k2,.slice (some ⟨b3,0,none⟩) gn k3,.slice (some ⟨b4,0,none⟩) bn k4] 34 (0,0))):=aQ (o:=6) (u:=.slice (some ⟨b4,0,none⟩) bn k4) E4.out
 have T4 : Hid ((w4.setCell ⟨w.heap.size,6,none⟩ (.slice (some ⟨b4,0,none⟩) bn k4)).heap[w.heap.size + 1]? = some (.cells #[.int .u8 0,.int .i64 0,.slice none 0 0,.int .i64 0,.slice none 0 0,.slice none 0 0,.slice none 0 0] 34 (0,0))):=(Below.heap_setCell _ _ _ _ (by simp)).trans F4.out
 have BW4 : Hid (Below w.heap.size w (w4.setCell ⟨w.heap.size,6,none⟩ (.slice (some ⟨b4,0,none⟩) bn k4))):=B4.out.setCell (by simp) _
 have P4 : Hid (Past (w.heap.size + 2) w4 (w4.setCell ⟨w.heap.size,6,none⟩ (.slice (some ⟨b4,0,none⟩) bn k4))):=(Past.refl _ _).set (by omega) _
 have P1 : Hid (Past (w.heap.size + 2) w1 (w4.setCell ⟨w.heap.size,6,none⟩ (.slice (some ⟨b4,0,none⟩) bn k4))):=(P1.out.below HL4.out.2).set (by omega) _
 have P2 : Hid (Past (w.heap.size + 2) w2 (w4.setCell ⟨w.heap.size,6,none⟩ (.slice (some ⟨b4,0,none⟩) bn k4))):=(P2.out.below HL4.out.2).set (by omega) _
 have P3 : Hid (Past (w.heap.size + 2) w3 (w4.setCell ⟨w.heap.size,6,none⟩ (.slice (some ⟨b4,0,none⟩) bn k4))):=(P3.out.below HL4.out.2).set (by omega) _
 clear c0 c1 c2 c3 c4 c5 c6 f0 f1 f2 f3 f4 f5 f6
 generalize hW4 : w4.setCell ⟨w.heap.size,6,none⟩ (.slice (some ⟨b4,0,none⟩) bn k4) = W4 at *
 obtain ⟨⟨c0,c1,c2,c3,c4,c5,c6⟩,f0,f1,f2,f3,f4,f5,f6⟩:=aK S4.out
 obtain ⟨⟨d0,d1,d2,d3,d4,d5,d6⟩,h0,h1,h2,h3,h4,h5,h6⟩:=aK T4.out
 go_wp2_with fail
 have g0:=aQ (o:=0) (u:=.int .u8 m.kind) T4.out
 have g1:=aQ (o:=1) (u:=.int .i64 m.size) g0
 have g2:=aQ (o:=2) (u:=.slice (some ⟨b1,0,none⟩) rn k1) g1
 have g3:=aQ (o:=3) (u:=.int .i64 m.loop) g2
 have g4:=aQ (o:=4) (u:=.slice (some ⟨b2,0,none⟩) fn k2) g3
 have g5:=aQ (o:=5) (u:=.slice (some ⟨b3,0,none⟩) gn k3) g4
 have g6:=aQ (o:=6) (u:=.slice (some ⟨b4,0,none⟩) bn k4) g5
 have t1:=(Array.getElem?_eq_some_iff.1 T1.out).1
 have t2:=(Array.getElem?_eq_some_iff.1 T2.out).1
 have t3:=(Array.getElem?_eq_some_iff.1 T3.out).1
 refine bodyPost_ret (res34 rfl _ _ (w.heap.size + 1) _ _ _ _ _ _ _ (0,0) rfl g6) rfl ?_
 refine ⟨_,_,_,_,_,_,_,_,_,_,_,_,rfl,⟨?_, ?_, ?_, ?_⟩,(((((((BW4.out.setCell (by simp) _).setCell (by simp) _).setCell (by simp) _).setCell (by simp) _).setCell (by simp) _).setCell (by simp) _).setCell (by simp) _)⟩
 ·rw [← L1.out];exact HL1.out.1.keep ((((((((P1.out.set (by omega) _).set (by omega) _).set (by omega) _).set (by omega) _).set (by omega) _).set (by omega) _).set (by omega) _).keeps (by simp) (by simp;omega))
 ·rw [← L2.out];exact HL2.out.1.keep ((((((((P2.out.set (by omega) _).set (by omega) _).set (by omega) _).set (by omega) _).set (by omega) _).set (by omega) _).set (by omega) _).keeps (by omega) (by omega))
 ·exact HL3.out.1.keep ((((((((P3.out.set (by omega) _).set (by omega) _).set (by omega) _).set (by omega) _).set (by omega) _).set (by omega) _).set (by omega) _).keeps (by omega) (by omega))
 ·rw [← L4.out];exact HL4.out.1.keep ((((((((P4.out.set (by omega) _).set (by omega) _).set (by omega) _).set (by omega) _).set (by omega) _).set (by omega) _).set (by omega) _).keeps (by omega) (by omega))
open Go Go.RowKit Go.Sort Ly
set_option maxHeartbeats 1600000
theorem cL {w : World} {l : List Fa} {a : Option Addr} {n c : Nat} (h : aM w 3 (fasV l) l.length (.slice a n c)) {j : Nat} {f : Fa} (hf : l[j]? = some f) :
  ∃ b off,a = some ⟨b,off,none⟩ ∧ w.cell? ⟨b,off + j * 3,none⟩ = some (str f.name) ∧ w.cell? ⟨b,off + j * 3 + 1,none⟩ = some (.int .i64 f.args) ∧ w.cell? ⟨b,off + j * 3 + 2,none⟩ = some (.int .i64 f.tru):=by
 obtain ⟨b,off,e,hc⟩:=h.at (by have:=(List.getElem?_eq_some_iff.1 hf).1;omega)
 obtain ⟨h0,h1,h2⟩:=xX hf
 exact ⟨b,off,e,hc _ _ h0,hc _ _ h1,hc _ _ h2⟩
theorem gE {w : World} {l : List Bi} {a : Option Addr} {n c : Nat} (h : aM w 2 (bisV l) l.length (.slice a n c)) {j : Nat} {f : Bi} (hf : l[j]? = some f) :
  ∃ b off,a = some ⟨b,off,none⟩ ∧ w.cell? ⟨b,off + j * 2,none⟩ = some (str f.name) ∧ w.cell? ⟨b,off + j * 2 + 1,none⟩ = some (.int .i64 f.at_):=by
 obtain ⟨b,off,e,hc⟩:=h.at (by have:=(List.getElem?_eq_some_iff.1 hf).1;omega)
 obtain ⟨h0,h1⟩:=xS hf
 exact ⟨b,off,e,hc _ _ h0,hc _ _ h1⟩
theorem tS {w : World} {l : List Int} {u : Value} (h : aM w 1 (inV l) l.length u) : dF w l u:=by
 have:=h.to
 rw [show (inV l).map D.val = l.map intD by simp [inV,intD,Function.comp_def]] at this
 exact this
theorem pJ (l : List Int) (a : Option Addr) (k c : Nat) (a' : Option Addr) (k' c' : Nat) (w : World) (hx : aM w 1 (inV l) l.length (.slice a k c)) (hy : aM w 1 (inV l) l.length (.slice a' k' c')) :
  Calls Tryz.prog 152 #[.slice a k c,.slice a' k' c'] w (Rt (.bool true) w):=by
 have:=SameInts_step l l a a' k c k' c' w (tS hx) (tS hy)
 simpa using this
theorem sameFacts_yes (l : List Fa) (a : Option Addr) (k c : Nat) (a' : Option Addr) (k' c' : Nat) (w : World) (hx : aM w 3 (fasV l) l.length (.slice a k c)) (hy : aM w 3 (fasV l) l.length (.slice a' k' c')) :
  Calls Tryz.prog 153 #[.slice a k c,.slice a' k' c'] w (Rt (.bool true) w):=by
 have hk:=hx.len
 have hk':=hy.len
 obtain rfl : k' = k:=by omega
 have hlk : k' ≤ 9223372036854775807:=by have:=le63 hk.2.2.1;omega
 have L1:=Hd hk.1
 have HX:=Hd hx
 have HY:=Hd hy
 clear hk hk' hx hy
 go_enter Tryz.func153,Tryz.ntmps153
 go_wp2_with fail
 go_loopw [5] (fun i wr=>∃ j : Nat,j ≤ k' ∧ i = .int .i64 j ∧ Hid (Below w.heap.size w wr)) (fun i _=>k' - (intOf i).toNat)
 case atStart=>exact ⟨0,Nat.zero_le _,rfl,Below.refl _ _⟩
 case round =>
  obtain ⟨j,hj,rfl,hs⟩:=hrel
  by_cases hlt : j < k'
  ·obtain ⟨T,hT⟩:=aH (l:=l) (j:=j) (by rw [← L1.out];exact hlt)
   have hK:=aC hs.out
   obtain ⟨b,off,rfl,p0,p1,p2⟩:=cL HX.out hT
   obtain ⟨b',off',rfl,q0,q1,q2⟩:=cL HY.out hT
   have c0:=cell_regrown (hK _ _ p0);have c1:=cell_regrown (hK _ _ p1);have c2:=cell_regrown (hK _ _ p2)
   have d0:=cell_regrown (hK _ _ q0);have d1:=cell_regrown (hK _ _ q1);have d2:=cell_regrown (hK _ _ q2)
   have g1 : decide ((j : Int) < (k' : Int)) = true:=by simp;omega
   clear hT hK
   go_wp2_with fail
   refine wqb ?_
   repeat (go_big_quiet_step (fail))
   refine wpQuiet_nil (qe fun wq WQ=>?_)
   go_wp2_with fail
   go_roundw
   case rel=>exact ⟨j + 1,by omega,by go_num,aA hs.out WQ.out⟩
   case measure=>simp [intOf];omega
  ·have g1 : decide ((j : Int) < (k' : Int)) = false:=by simp;omega
   have BW:=Hd hs.out
   clear hs
   go_wp2_with fail
   go_ret
   exact ⟨rfl,BW.out⟩
theorem sameBinds_yes (l : List Bi) (a : Option Addr) (k c : Nat) (a' : Option Addr) (k' c' : Nat) (w : World) (hx : aM w 2 (bisV l) l.length (.slice a k c)) (hy : aM w 2 (bisV l) l.length (.slice a' k' c')) :
  Calls Tryz.prog 155 #[.slice a k c,.slice a' k' c'] w (Rt (.bool true) w):=by
 have hk:=hx.len
 have hk':=hy.len
 obtain rfl : k' = k:=by omega
 have hlk : k' ≤ 9223372036854775807:=by have:=le63 hk.2.2.1;omega
 have L1:=Hd hk.1
 have HX:=Hd hx
 have HY:=Hd hy
 clear hk hk' hx hy
 go_enter Tryz.func155,Tryz.ntmps155
 go_wp2_with fail
 go_loopw [5] (fun i wr=>∃ j : Nat,j ≤ k' ∧ i = .int .i64 j ∧ Hid (Below w.heap.size w wr)) (fun i _=>k' - (intOf i).toNat)
 case atStart=>exact ⟨0,Nat.zero_le _,rfl,Below.refl _ _⟩
 case round =>
  obtain ⟨j,hj,rfl,hs⟩:=hrel
  by_cases hlt : j < k'
  ·obtain ⟨T,hT⟩:=aH (l:=l) (j:=j) (by rw [← L1.out];exact hlt)
   have hK:=aC hs.out
   obtain ⟨b,off,rfl,p0,p1⟩:=gE HX.out hT
   obtain ⟨b',off',rfl,q0,q1⟩:=gE HY.out hT
   have c0:=cell_regrown (hK _ _ p0);have c1:=cell_regrown (hK _ _ p1)
   have d0:=cell_regrown (hK _ _ q0);have d1:=cell_regrown (hK _ _ q1)
   have g1 : decide ((j : Int) < (k' : Int)) = true:=by simp;omega
   clear hT hK
   go_wp2_with fail
   refine wqb ?_
   repeat (go_big_quiet_step (fail))
   refine wpQuiet_nil (qe fun wq WQ=>?_)
   go_wp2_with fail
   go_roundw
   case rel=>exact ⟨j + 1,by omega,by go_num,aA hs.out WQ.out⟩
   case measure=>simp [intOf];omega
  ·have g1 : decide ((j : Int) < (k' : Int)) = false:=by simp;omega
   have BW:=Hd hs.out
   clear hs
   go_wp2_with fail
   go_ret
   exact ⟨rfl,BW.out⟩
theorem lW (t : Fu) (a : Option Addr) (k c : Nat) (a' : Option Addr) (k' c' : Nat) (w : World) (hx : aM w 1 (inV t.value) t.value.length (.slice a k c)) (hy : aM w 1 (inV t.value) t.value.length (.slice a' k' c')) :
  Calls Tryz.prog 157 #[.agg #[str t.name,.int .i64 t.args,.slice a k c],.agg #[str t.name,.int .i64 t.args,.slice a' k' c']] w (Rt (.bool true) w):=by
 have HB : Hid (Below w.heap.size w ((w.alloc (.cells #[str t.name,.int .i64 t.args,.slice a k c] 121)).alloc (.cells #[str t.name,.int .i64 t.args,.slice a' k' c'] 121))):=bnew.alloc (by simp) _
 have R:=Hd (pJ t.value a k c a' k' c' ((w.alloc (.cells #[str t.name,.int .i64 t.args,.slice a k c] 121)).alloc (.cells #[str t.name,.int .i64 t.args,.slice a' k' c'] 121)) (hx.keep (aC HB.out)) (hy.keep (aC HB.out)))
 clear hx hy
 go_enter Tryz.func157,Tryz.ntmps157
 go_wp2_with (go_at_call 152;refine R.out.mono ?_;rintro e w1 ⟨rfl,b1⟩;have B1:=Hd (aA HB.out b1);clear b1)
 go_ret
 exact ⟨rfl,B1.out⟩
theorem sameFuncs_yes (l : List Fu) (a : Option Addr) (k c : Nat) (a' : Option Addr) (k' c' : Nat) (w : World) (hx : fZ w l (.slice a k c)) (hy : fZ w l (.slice a' k' c')) :
  Calls Tryz.prog 154 #[.slice a k c,.slice a' k' c'] w (Rt (.bool true) w):=by
 have hk:=hx.len
 have hk':=hy.len
 obtain rfl : k' = k:=by omega
 have hlk : k' ≤ 9223372036854775807:=by have:=le63 hk.2.2;omega
 have L1:=Hd hk.1
 have HX:=Hd hx
 have HY:=Hd hy
 clear hk hk' hx hy
 go_enter Tryz.func154,Tryz.ntmps154
 go_wp2_with fail
 go_loopw [5] (fun i wr=>∃ j : Nat,j ≤ k' ∧ i = .int .i64 j ∧ Hid (Below w.heap.size w wr)) (fun i _=>k' - (intOf i).toNat)
 case atStart=>exact ⟨0,Nat.zero_le _,rfl,Below.refl _ _⟩
 case round =>
  obtain ⟨j,hj,rfl,hs⟩:=hrel
  by_cases hlt : j < k'
  ·obtain ⟨T,hT⟩:=aH (l:=l) (j:=j) (by rw [← L1.out];exact hlt)
   have hK:=aC hs.out
   obtain ⟨b,off,rfl,hc⟩:=HX.out.get (bG hT)
   obtain ⟨y0,y1,y2,p0,p1,p2,hy⟩:=hc j _ hT
   obtain ⟨b',off',rfl,hc'⟩:=HY.out.get (bG hT)
   obtain ⟨z0,z1,z2,q0,q1,q2,hz⟩:=hc' j _ hT
   have c0:=cell_regrown (hK _ _ p0);have c1:=cell_regrown (hK _ _ p1);have c2:=cell_regrown (hK _ _ p2)
   have d0:=cell_regrown (hK _ _ q0);have d1:=cell_regrown (hK _ _ q1);have d2:=cell_regrown (hK _ _ q2)
   have cK : Hid (∀ d os,Calls Tryz.prog 157 #[.agg #[str T.name,.int .i64 T.args,.slice y0 y1 y2],.agg #[str T.name,.int .i64 T.args,.slice z0 z1 z2]] (grow (redrawn wr d) os) fun e w''=>e = .returned (.bool true) ∧ ∃ p : Regrown,w'' = grow (redrawn wr p.d) p.os):=fun d os =>
    have K : bI w (grow (redrawn wr d) os):=hK.trans (aC (below_regrown wr d os))
    Calls.regrown_of (lW T _ _ _ _ _ _ _ (hy.keep K) (hz.keep K))
   have g1 : decide ((j : Int) < (k' : Int)) = true:=by simp;omega
   clear hT hK hc hc' hy hz p0 p1 p2 q0 q1 q2
   go_wp2_with fail
   refine wqb ?_
   repeat (go_big_quiet_step (first | (go_at_call 157;exact cK.out _ _)))
   refine wpQuiet_nil (qe fun wq WQ=>?_)
   go_wp2_with fail
   go_roundw
   case rel=>exact ⟨j + 1,by omega,by go_num,aA hs.out WQ.out⟩
   case measure=>simp [intOf];omega
  ·have g1 : decide ((j : Int) < (k' : Int)) = false:=by simp;omega
   have BW:=Hd hs.out
   clear hs
   go_wp2_with fail
   go_ret
   exact ⟨rfl,BW.out⟩
open Go Go.RowKit Go.Sort Ly
set_option maxHeartbeats 4000000
theorem eS {w : World} {l : List Int} {a : Option Addr} {n c : Nat} (h : aM w 1 (inV l) l.length (.slice a n c)) {j : Nat} {f : Int} (hf : l[j]? = some f) :
  ∃ b off,a = some ⟨b,off,none⟩ ∧ w.cell? ⟨b,off + j,none⟩ = some (.int .i64 f):=by
 obtain ⟨b,off,e,hc⟩:=h.at (by have:=(List.getElem?_eq_some_iff.1 hf).1;omega)
 exact ⟨b,off,e,hc _ _ (by simp [inV,hf])⟩
theorem iL {w : World} {b : Nat} {zs ms : List Value} (h : nR w b (zs ++ ms)) {j : Nat} {u : Value} (hu : zs[j]? = some u) : w.cell? ⟨b,j,none⟩ = some u:=h.left j u hu
theorem iM {w : World} {b n k : Nat} {zs : List Value} {mk : Nat → List Value} (h : nR w b (zs ++ marksOf mk 12)) (hz : zs.length = n * k) (hk : ∀ i,(mk i).length = k) {p i : Nat} {u : Value} (hp : p < 12) (hi : i < k) (hu : (mk p)[i]? = some u) : w.cell? ⟨b,(n + p) * k + i,none⟩ = some u:=by
 refine h _ u ?_
 have e : (n + p) * k + i = n * k + (p * k + i):=by rw [Nat.add_mul,Nat.add_assoc]
 rw [e,List.getElem?_append_right (by rw [hz];omega),hz,Nat.add_sub_cancel_left,qS mk k hk 12 p i hp hi]
 exact hu
theorem rQ (l : List Int) (u : Value) (a : Option Addr) (k c : Nat) (w : World) (hu : cQ w 1 (inV l) (marksOf kO 12) l.length u) (hy : aM w 1 (inV l) l.length (.slice a k c)) :
  Calls Tryz.prog 77 #[u,.slice a k c] w (Rt (.bool true) w):=by
 have hk:=hy.len
 obtain ⟨b,cap,rfl,e1,e2,e3,e4⟩:=id hu
 have L1:=Hd hk.1
 have ZL:=Hd e3
 have HR:=Hd e4
 have HY:=Hd hy
 have hcap : k + 12 ≤ cap:=by rw [hk.1];exact e1
 have hmax : cap ≤ 9223372036854775807:=by have:=le63 e2;omega
 rw [← hk.1]
 clear hk hu hy e1 e2 e3 e4
 go_enter Tryz.func77,Tryz.ntmps77
 go_wp2_with fail
 go_loopw [6] (fun i wr=>∃ j : Nat,j ≤ k + 12 ∧ i = .int .i64 j ∧ Hid (Below w.heap.size w wr)) (fun i _=>k + 12 - (intOf i).toNat)
 case atStart=>exact ⟨0,Nat.zero_le _,rfl,Below.refl _ _⟩
 case round =>
  obtain ⟨j,hj,rfl,hs⟩:=hrel
  by_cases hlt : j < k
  ·obtain ⟨T,hT⟩:=aH (l:=l) (j:=j) (by rw [← L1.out];exact hlt)
   obtain ⟨bb,off,rfl,q0⟩:=eS HY.out hT
   have e0 : (inV l)[j]? = some (.int .i64 T):=by simp [inV,hT]
   have hK:=aC hs.out
   have c0:=cell_regrown (hK _ _ (iL HR.out e0))
   have d0:=cell_regrown (hK _ _ q0)
   have g1 : decide ((j : Int) < (k : Int)) = true:=by simp;omega
   have g2 : decide (k ≤ j) = false:=by simp;omega
   clear hT hK
   go_wp2_with fail
   refine wqb ?_
   repeat (go_big_quiet_step (fail))
   refine wpQuiet_nil (qe fun wq WQ=>?_)
   go_wp2_with fail
   go_roundw
   case rel=>exact ⟨j + 1,by omega,by go_num,aA hs.out WQ.out⟩
   case measure=>simp [intOf];omega
  ·by_cases hlt2 : j < k + 12
   ·obtain ⟨p,hp⟩ : ∃ p,j = k + p:=⟨j - k,by omega⟩
    have hp12 : p < 12:=by omega
    have hK:=aC hs.out
    have c0 : wr.cell? ⟨b,j,none⟩ = some (.int .i64 (qR p)):=by
     have:=hK _ _ (iM HR.out ZL.out (fun _=>rfl) hp12 (show 0 < 1 by decide) (u:=.int .i64 (qR p)) rfl)
     rw [← L1.out,← hp] at this;simpa using this
    have c0:=cell_regrown c0
    have cM : Hid (∀ d os,Calls Tryz.prog 136 #[.int .i64 1,.int .i64 p] (grow (redrawn wr d) os) fun e w''=>e = .returned (.int .i64 (qR p)) ∧ ∃ q : Regrown,w'' = grow (redrawn wr q.d) q.os):=fun d os =>
     Calls.regrown_of ((zF p hp12 _).mono fun e w' h=>⟨h.1,by rw [h.2];exact Below.refl _ _⟩)
    have g1 : decide ((j : Int) < (k : Int)) = false:=by simp;omega
    have g2 : decide (k ≤ j) = true:=by simp;omega
    have g3 : (j : Int) - (k : Int) = p:=by omega
    generalize qR p = M at *
    clear hK hp
    go_wp2_with fail
    refine wqb ?_
    repeat (go_big_quiet_step (first | (go_at_call 136;exact cM.out _ _)))
    refine wpQuiet_nil (qe fun wq WQ=>?_)
    go_wp2_with fail
    go_roundw
    case rel=>exact ⟨j + 1,by omega,by go_num,aA hs.out WQ.out⟩
    case measure=>simp [intOf];omega
   ·go_wp2_with fail
    go_ret
    exact ⟨rfl,hs.out⟩
theorem keptFacts_c (l : List Fa) (u : Value) (a : Option Addr) (k c : Nat) (w : World) (hu : cQ w 3 (fasV l) (marksOf pU 12) l.length u) (hy : aM w 3 (fasV l) l.length (.slice a k c)) :
  Calls Tryz.prog 78 #[u,.slice a k c] w (Rt (.bool true) w):=by
 have hk:=hy.len
 obtain ⟨b,cap,rfl,e1,e2,e3,e4⟩:=id hu
 have L1:=Hd hk.1
 have ZL:=Hd e3
 have HR:=Hd e4
 have HY:=Hd hy
 have hcap : k + 12 ≤ cap:=by rw [hk.1];exact e1
 have hmax : cap ≤ 9223372036854775807:=by have:=le63 e2;omega
 rw [← hk.1]
 clear hk hu hy e1 e2 e3 e4
 go_enter Tryz.func78,Tryz.ntmps78
 go_wp2_with fail
 go_loopw [6] (fun i wr=>∃ j : Nat,j ≤ k + 12 ∧ i = .int .i64 j ∧ Hid (Below w.heap.size w wr)) (fun i _=>k + 12 - (intOf i).toNat)
 case atStart=>exact ⟨0,Nat.zero_le _,rfl,Below.refl _ _⟩
 case round =>
  obtain ⟨j,hj,rfl,hs⟩:=hrel
  by_cases hlt : j < k
  ·obtain ⟨T,hT⟩:=aH (l:=l) (j:=j) (by rw [← L1.out];exact hlt)
   obtain ⟨bb,off,rfl,q0,q1,q2⟩:=cL HY.out hT
   obtain ⟨e0,e1,e2⟩:=xX hT
   have hK:=aC hs.out
   have c0:=cell_regrown (hK _ _ (iL HR.out e0));have c1:=cell_regrown (hK _ _ (iL HR.out e1));have c2:=cell_regrown (hK _ _ (iL HR.out e2))
   have d0:=cell_regrown (hK _ _ q0);have d1:=cell_regrown (hK _ _ q1);have d2:=cell_regrown (hK _ _ q2)
   have g1 : decide ((j : Int) < (k : Int)) = true:=by simp;omega
   have g2 : decide (k ≤ j) = false:=by simp;omega
   clear hT hK
   go_wp2_with fail
   refine wqb ?_
   repeat (go_big_quiet_step (fail))
   refine wpQuiet_nil (qe fun wq WQ=>?_)
   go_wp2_with fail
   go_roundw
   case rel=>exact ⟨j + 1,by omega,by go_num,aA hs.out WQ.out⟩
   case measure=>simp [intOf];omega
  ·by_cases hlt2 : j < k + 12
   ·obtain ⟨p,hp⟩ : ∃ p,j = k + p:=⟨j - k,by omega⟩
    have hp12 : p < 12:=by omega
    have hK:=aC hs.out
    have c0 : wr.cell? ⟨b,j * 3,none⟩ = some (str (cX p)):=by
     have:=hK _ _ (iM HR.out ZL.out (fun _=>rfl) hp12 (show 0 < 3 by decide) (u:=str (cX p)) rfl)
     rw [← L1.out,← hp] at this;exact this
    have c1 : wr.cell? ⟨b,j * 3 + 1,none⟩ = some (.int .i64 0):=by
     have:=hK _ _ (iM HR.out ZL.out (fun _=>rfl) hp12 (show 1 < 3 by decide) (u:=.int .i64 0) rfl)
     rw [← L1.out,← hp] at this;exact this
    have c2 : wr.cell? ⟨b,j * 3 + 2,none⟩ = some (.int .i64 0):=by
     have:=hK _ _ (iM HR.out ZL.out (fun _=>rfl) hp12 (show 2 < 3 by decide) (u:=.int .i64 0) rfl)
     rw [← L1.out,← hp] at this;exact this
    have c0:=cell_regrown c0;have c1:=cell_regrown c1;have c2:=cell_regrown c2
    have cM : Hid (∀ d os,Calls Tryz.prog 137 #[.int .i64 1,.int .i64 p] (grow (redrawn wr d) os) fun e w''=>e = .returned (.agg #[str (cX p),.int .i64 0,.int .i64 0]) ∧ ∃ q : Regrown,w'' = grow (redrawn wr q.d) q.os):=fun d os =>
     Calls.regrown_of (rU p hp12 _)
    have g1 : decide ((j : Int) < (k : Int)) = false:=by simp;omega
    have g2 : decide (k ≤ j) = true:=by simp;omega
    have g3 : (j : Int) - (k : Int) = p:=by omega
    generalize cX p = M at *
    clear hK hp
    go_wp2_with fail
    refine wqb ?_
    repeat (go_big_quiet_step (first | (go_at_call 137;exact cM.out _ _)))
    refine wpQuiet_nil (qe fun wq WQ=>?_)
    go_wp2_with fail
    go_roundw
    case rel=>exact ⟨j + 1,by omega,by go_num,aA hs.out WQ.out⟩
    case measure=>simp [intOf];omega
   ·go_wp2_with fail
    go_ret
    exact ⟨rfl,hs.out⟩
theorem keptBinds_c (l : List Bi) (u : Value) (a : Option Addr) (k c : Nat) (w : World) (hu : cQ w 2 (bisV l) (marksOf pR 12) l.length u) (hy : aM w 2 (bisV l) l.length (.slice a k c)) :
  Calls Tryz.prog 80 #[u,.slice a k c] w (Rt (.bool true) w):=by
 have hk:=hy.len
 obtain ⟨b,cap,rfl,e1,e2,e3,e4⟩:=id hu
 have L1:=Hd hk.1
 have ZL:=Hd e3
 have HR:=Hd e4
 have HY:=Hd hy
 have hcap : k + 12 ≤ cap:=by rw [hk.1];exact e1
 have hmax : cap ≤ 9223372036854775807:=by have:=le63 e2;omega
 rw [← hk.1]
 clear hk hu hy e1 e2 e3 e4
 go_enter Tryz.func80,Tryz.ntmps80
 go_wp2_with fail
 go_loopw [6] (fun i wr=>∃ j : Nat,j ≤ k + 12 ∧ i = .int .i64 j ∧ Hid (Below w.heap.size w wr)) (fun i _=>k + 12 - (intOf i).toNat)
 case atStart=>exact ⟨0,Nat.zero_le _,rfl,Below.refl _ _⟩
 case round =>
  obtain ⟨j,hj,rfl,hs⟩:=hrel
  by_cases hlt : j < k
  ·obtain ⟨T,hT⟩:=aH (l:=l) (j:=j) (by rw [← L1.out];exact hlt)
   obtain ⟨bb,off,rfl,q0,q1⟩:=gE HY.out hT
   obtain ⟨e0,e1⟩:=xS hT
   have hK:=aC hs.out
   have c0:=cell_regrown (hK _ _ (iL HR.out e0));have c1:=cell_regrown (hK _ _ (iL HR.out e1))
   have d0:=cell_regrown (hK _ _ q0);have d1:=cell_regrown (hK _ _ q1)
   have g1 : decide ((j : Int) < (k : Int)) = true:=by simp;omega
   have g2 : decide (k ≤ j) = false:=by simp;omega
   clear hT hK
   go_wp2_with fail
   refine wqb ?_
   repeat (go_big_quiet_step (fail))
   refine wpQuiet_nil (qe fun wq WQ=>?_)
   go_wp2_with fail
   go_roundw
   case rel=>exact ⟨j + 1,by omega,by go_num,aA hs.out WQ.out⟩
   case measure=>simp [intOf];omega
  ·by_cases hlt2 : j < k + 12
   ·obtain ⟨p,hp⟩ : ∃ p,j = k + p:=⟨j - k,by omega⟩
    have hp12 : p < 12:=by omega
    have hK:=aC hs.out
    have c0 : wr.cell? ⟨b,j * 2,none⟩ = some (str (cX p)):=by
     have:=hK _ _ (iM HR.out ZL.out (fun _=>rfl) hp12 (show 0 < 2 by decide) (u:=str (cX p)) rfl)
     rw [← L1.out,← hp] at this;exact this
    have c1 : wr.cell? ⟨b,j * 2 + 1,none⟩ = some (.int .i64 0):=by
     have:=hK _ _ (iM HR.out ZL.out (fun _=>rfl) hp12 (show 1 < 2 by decide) (u:=.int .i64 0) rfl)
     rw [← L1.out,← hp] at this;exact this
    have c0:=cell_regrown c0;have c1:=cell_regrown c1
    have cM : Hid (∀ d os,Calls Tryz.prog 140 #[.int .i64 1,.int .i64 p] (grow (redrawn wr d) os) fun e w''=>e = .returned (.agg #[str (cX p),.int .i64 0]) ∧ ∃ q : Regrown,w'' = grow (redrawn wr q.d) q.os):=fun d os =>
     Calls.regrown_of (rT p hp12 _)
    have g1 : decide ((j : Int) < (k : Int)) = false:=by simp;omega
    have g2 : decide (k ≤ j) = true:=by simp;omega
    have g3 : (j : Int) - (k : Int) = p:=by omega
    generalize cX p = M at *
    clear hK hp
    go_wp2_with fail
    refine wqb ?_
    repeat (go_big_quiet_step (first | (go_at_call 140;exact cM.out _ _)))
    refine wpQuiet_nil (qe fun wq WQ=>?_)
    go_wp2_with fail
    go_roundw
    case rel=>exact ⟨j + 1,by omega,by go_num,aA hs.out WQ.out⟩
    case measure=>simp [intOf];omega
   ·go_wp2_with fail
    go_ret
    exact ⟨rfl,hs.out⟩
end Go.Proofs.YtcandidgaegghaaGreatDoor
