/- Contracts of describe.signOf, words, text and Form. -/
import Derived.Test.YtcandidgaegghaaGreatDoorCpZ
import Derived.Deep.DeepCutAuto
import Derived.Test.YtcandidgaegghaaGreatDoorWordsZ
import Derived.Test.YtcandidgaegghaaGreatDoorRightZ
set_option maxRecDepth 10000
set_option linter.unusedSimpArgs false
set_option linter.unusedVariables false
namespace Go.Proofs.YtcandidgaegghaaGreatDoor
open Go Go.RowKit Ly
theorem bF (x y : Array UInt8) : (⟨x⟩ : ByteArray) ++ ⟨y⟩ = ⟨x ++ y⟩:=ByteArray.ext (by simp)
set_option maxHeartbeats 800000
theorem signOf_3 (n : Bs) (a : Option Addr) (k c : Nat) (a' : Option Addr) (m d : Nat) (w : World) (hn : n.length ≤ 1000000) :
  Calls Tryz.prog 169 #[.agg #[.int .u8 3,str n,.slice a k c,.slice a' m d]] w (Rt (.agg #[str (aM 3 n),str (aG 3)]) w):=by
 go_enter Tryz.func169,Tryz.ntmps169
 go_wp2
 exact bodyPost_ret (v:=.agg #[str (aM 3 n),str (aG 3)]) (by simp [results,Tryz.results169,go_sem,aM,aG,bF,wNot]) rfl ⟨rfl,bnew.alloc (by simp) _⟩
theorem signOf_4 (n : Bs) (a : Option Addr) (k c : Nat) (a' : Option Addr) (m d : Nat) (w : World) (hn : n.length ≤ 1000000) :
  Calls Tryz.prog 169 #[.agg #[.int .u8 4,str n,.slice a k c,.slice a' m d]] w (Rt (.agg #[str (aM 4 n),str (aG 4)]) w):=by
 go_enter Tryz.func169,Tryz.ntmps169
 go_wp2
 exact bodyPost_ret (v:=.agg #[str (aM 4 n),str (aG 4)]) (by simp [results,Tryz.results169,go_sem,aM,aG,bF,nA,wAnd]) rfl ⟨rfl,bnew.alloc (by simp) _⟩
theorem signOf_5 (n : Bs) (a : Option Addr) (k c : Nat) (a' : Option Addr) (m d : Nat) (w : World) (hn : n.length ≤ 1000000) :
  Calls Tryz.prog 169 #[.agg #[.int .u8 5,str n,.slice a k c,.slice a' m d]] w (Rt (.agg #[str (aM 5 n),str (aG 5)]) w):=by
 go_enter Tryz.func169,Tryz.ntmps169
 go_wp2
 exact bodyPost_ret (v:=.agg #[str (aM 5 n),str (aG 5)]) (by simp [results,Tryz.results169,go_sem,aM,aG,bF,hH,wOr]) rfl ⟨rfl,bnew.alloc (by simp) _⟩
theorem signOf_6 (n : Bs) (a : Option Addr) (k c : Nat) (a' : Option Addr) (m d : Nat) (w : World) (hn : n.length ≤ 1000000) :
  Calls Tryz.prog 169 #[.agg #[.int .u8 6,str n,.slice a k c,.slice a' m d]] w (Rt (.agg #[str (aM 6 n),str (aG 6)]) w):=by
 go_enter Tryz.func169,Tryz.ntmps169
 go_wp2
 exact bodyPost_ret (v:=.agg #[str (aM 6 n),str (aG 6)]) (by simp [results,Tryz.results169,go_sem,aM,aG,bF,wIf,zG]) rfl ⟨rfl,bnew.alloc (by simp) _⟩
theorem signOf_7 (n : Bs) (a : Option Addr) (k c : Nat) (a' : Option Addr) (m d : Nat) (w : World) (hn : n.length ≤ 1000000) :
  Calls Tryz.prog 169 #[.agg #[.int .u8 7,str n,.slice a k c,.slice a' m d]] w (Rt (.agg #[str (aM 7 n),str (aG 7)]) w):=by
 go_enter Tryz.func169,Tryz.ntmps169
 go_wp2
 exact bodyPost_ret (v:=.agg #[str (aM 7 n),str (aG 7)]) (by simp [results,Tryz.results169,go_sem,aM,aG,bF,wAs,wSo]) rfl ⟨rfl,bnew.alloc (by simp) _⟩
theorem signOf_8 (n : Bs) (a : Option Addr) (k c : Nat) (a' : Option Addr) (m d : Nat) (w : World) (hn : n.length ≤ 1000000) :
  Calls Tryz.prog 169 #[.agg #[.int .u8 8,str n,.slice a k c,.slice a' m d]] w (Rt (.agg #[str (aM 8 n),str (aG 8)]) w):=by
 go_enter Tryz.func169,Tryz.ntmps169
 go_wp2
 exact bodyPost_ret (v:=.agg #[str (aM 8 n),str (aG 8)]) (by simp [results,Tryz.results169,go_sem,aM,aG,bF,wFor,wAll]) rfl ⟨rfl,bnew.alloc (by simp) _⟩
theorem signOf_9 (n : Bs) (a : Option Addr) (k c : Nat) (a' : Option Addr) (m d : Nat) (w : World) (hn : n.length ≤ 1000000) :
  Calls Tryz.prog 169 #[.agg #[.int .u8 9,str n,.slice a k c,.slice a' m d]] w (Rt (.agg #[str (aM 9 n),str (aG 9)]) w):=by
 go_enter Tryz.func169,Tryz.ntmps169
 go_wp2
 exact bodyPost_ret (v:=.agg #[str (aM 9 n),str (aG 9)]) (by simp [results,Tryz.results169,go_sem,aM,aG,bF,wFor,eA]) rfl ⟨rfl,bnew.alloc (by simp) _⟩
theorem signOf_10 (n : Bs) (a : Option Addr) (k c : Nat) (a' : Option Addr) (m d : Nat) (w : World) (hn : n.length ≤ 1000000) :
  Calls Tryz.prog 169 #[.agg #[.int .u8 10,str n,.slice a k c,.slice a' m d]] w (Rt (.agg #[str (aM 10 n),str (aG 10)]) w):=by
 go_enter Tryz.func169,Tryz.ntmps169
 go_wp2
 exact bodyPost_ret (v:=.agg #[str (aM 10 n),str (aG 10)]) (by simp [results,Tryz.results169,go_sem,aM,aG,bF,wNec]) rfl ⟨rfl,bnew.alloc (by simp) _⟩
theorem signOf_11 (n : Bs) (a : Option Addr) (k c : Nat) (a' : Option Addr) (m d : Nat) (w : World) (hn : n.length ≤ 1000000) :
  Calls Tryz.prog 169 #[.agg #[.int .u8 11,str n,.slice a k c,.slice a' m d]] w (Rt (.agg #[str (aM 11 n),str (aG 11)]) w):=by
 go_enter Tryz.func169,Tryz.ntmps169
 go_wp2
 exact bodyPost_ret (v:=.agg #[str (aM 11 n),str (aG 11)]) (by simp [results,Tryz.results169,go_sem,aM,aG,bF,wPos]) rfl ⟨rfl,bnew.alloc (by simp) _⟩
theorem signOf_12 (n : Bs) (a : Option Addr) (k c : Nat) (a' : Option Addr) (m d : Nat) (w : World) (hn : n.length ≤ 1000000) :
  Calls Tryz.prog 169 #[.agg #[.int .u8 12,str n,.slice a k c,.slice a' m d]] w (Rt (.agg #[str (aM 12 n),str (aG 12)]) w):=by
 go_enter Tryz.func169,Tryz.ntmps169
 go_wp2
 exact bodyPost_ret (v:=.agg #[str (aM 12 n),str (aG 12)]) (by simp [results,Tryz.results169,go_sem,aM,aG,bF,iZ]) rfl ⟨rfl,bnew.alloc (by simp) _⟩
theorem signOf_13 (n : Bs) (a : Option Addr) (k c : Nat) (a' : Option Addr) (m d : Nat) (w : World) (hn : n.length ≤ 1000000) :
  Calls Tryz.prog 169 #[.agg #[.int .u8 13,str n,.slice a k c,.slice a' m d]] w (Rt (.agg #[str (aM 13 n),str (aG 13)]) w):=by
 go_enter Tryz.func169,Tryz.ntmps169
 go_wp2
 exact bodyPost_ret (v:=.agg #[str (aM 13 n),str (aG 13)]) (by simp [results,Tryz.results169,go_sem,aM,aG,bF,eO]) rfl ⟨rfl,bnew.alloc (by simp) _⟩
theorem signOf_14 (n : Bs) (a : Option Addr) (k c : Nat) (a' : Option Addr) (m d : Nat) (w : World) (hn : n.length ≤ 1000000) :
  Calls Tryz.prog 169 #[.agg #[.int .u8 14,str n,.slice a k c,.slice a' m d]] w (Rt (.agg #[str (aM 14 n),str (aG 14)]) w):=by
 go_enter Tryz.func169,Tryz.ntmps169
 go_wp2
 exact bodyPost_ret (v:=.agg #[str (aM 14 n),str (aG 14)]) (by simp [results,Tryz.results169,go_sem,aM,aG,bF,jQ,mK]) rfl ⟨rfl,bnew.alloc (by simp) _⟩
theorem GI (op : Int) (n : Bs) (a : Option Addr) (k c : Nat) (a' : Option Addr) (m d : Nat) (w : World) (h : 3 ≤ op ∧ op ≤ 14) (hn : n.length ≤ 1000000) :
  Calls Tryz.prog 169 #[.agg #[.int .u8 op,str n,.slice a k c,.slice a' m d]] w (Rt (.agg #[str (aM op n),str (aG op)]) w):=by
 rcases (show op = 3 ∨ op = 4 ∨ op = 5 ∨ op = 6 ∨ op = 7 ∨ op = 8 ∨ op = 9 ∨ op = 10 ∨ op = 11 ∨ op = 12 ∨ op = 13 ∨ op = 14 by omega) with rfl | rfl | rfl | rfl | rfl | rfl | rfl | rfl | rfl | rfl | rfl | rfl
 ·exact signOf_3 n a k c a' m d w hn
 ·exact signOf_4 n a k c a' m d w hn
 ·exact signOf_5 n a k c a' m d w hn
 ·exact signOf_6 n a k c a' m d w hn
 ·exact signOf_7 n a k c a' m d w hn
 ·exact signOf_8 n a k c a' m d w hn
 ·exact signOf_9 n a k c a' m d w hn
 ·exact signOf_10 n a k c a' m d w hn
 ·exact signOf_11 n a k c a' m d w hn
 ·exact signOf_12 n a k c a' m d w hn
 ·exact signOf_13 n a k c a' m d w hn
 ·exact signOf_14 n a k c a' m d w hn
theorem dC (w : World) : aR w w.drew:=aA (Below.refl _ _).drew
theorem NM {w W w2 : World} {O : Obj} (h : Below w.heap.size w W) (b2 : Below (W.alloc O).drew.heap.size (W.alloc O).drew w2) : Below w.heap.size w w2 ∧ aR W w2 :=
 ⟨h.trans ((bB (aB (Below.refl _ _).drew b2)).mono h.size),((bH W O).trans (dC _)).trans (aA b2)⟩
theorem NQ {w W w2 : World} (h : Below w.heap.size w W) (b2 : Below W.drew.heap.size W.drew w2) : Below w.heap.size w w2 ∧ aR W w2 :=
 ⟨h.trans ((aB (Below.refl _ _).drew b2).mono h.size),(dC _).trans (aA b2)⟩
theorem MZ {w W w2 w3 : World} {O : Obj} {l : List Bs} {v : Value} (h : Below w.heap.size w w2 ∧ aR W w2) (o3 : aI (w2.alloc O).heap.size w3 l v) (b3 : Below (w2.alloc O).heap.size (w2.alloc O) w3) :
  aI w.heap.size w3 l v ∧ Below w.heap.size w w3 ∧ aR W w3:=by
 have s0:=h.1.size
 exact ⟨o3.mono (by simp;omega),h.1.trans ((bB b3).mono s0),(h.2.trans (bH _ _)).trans (aA b3)⟩
theorem NA {w W w2 w3 : World} {O O' : Obj} {l : List Bs} {v : Value} (h : Below w.heap.size w w2 ∧ aR W w2) (o3 : aI ((w2.alloc O).alloc O').heap.size w3 l v) (b3 : Below ((w2.alloc O).alloc O').heap.size ((w2.alloc O).alloc O') w3) :
  aI w.heap.size w3 l v ∧ Below w.heap.size w w3 ∧ aR W w3:=by
 have s0:=h.1.size
 exact ⟨o3.mono (by simp;omega),h.1.trans ((iT b3).mono s0),(h.2.trans (iJ _ _ _)).trans (aA b3)⟩
theorem MN {W w2 : World} {B : Nat} {F : Bs} (hB : W.heap.size = B) (b2 : Below (W.alloc (.cells #[str F] 9)).drew.heap.size (W.alloc (.cells #[str F] 9)).drew w2) : w2.cell? ⟨B,0,none⟩ = some (str F) :=
 aA b2 _ _ (dC _ _ _ (by subst hB;simp [go_sem]))
theorem listsA2 {W w2 : World} {B : Nat} {F : Bs} {m : List Bs} {z0 : Option Addr} {z1 z2 : Nat} (hB : W.heap.size = B) (b2 : Below (W.alloc (.cells #[str F] 9)).drew.heap.size (W.alloc (.cells #[str F] 9)).drew w2) (o2 : aU w2 m (.slice z0 z1 z2)) (T : TypeId) :
  fQ (w2.alloc (.cells #[.slice (some ⟨B,0,none⟩) 1 1,.slice z0 z1 z2] T)) [[F],m] (.slice (some ⟨w2.heap.size,0,none⟩) 2 2) :=
 qB (u1:=.slice (some ⟨B,0,none⟩) 1 1) (u2:=.slice z0 z1 z2) (by simp [go_sem]) (by simp [go_sem]) ((pO (MN hB b2)).keep (bH _ _)) (o2.keep (bH _ _))
theorem listsB2 {w2 : World} {F : Bs} {m : List Bs} {z0 : Option Addr} {z1 z2 : Nat} (o2 : aU w2 m (.slice z0 z1 z2)) (T : TypeId) :
  fQ ((w2.alloc (.cells #[str F] 9)).alloc (.cells #[.slice (some ⟨w2.heap.size,0,none⟩) 1 1,.slice z0 z1 z2] T)) [[F],m] (.slice (some ⟨w2.heap.size + 1,0,none⟩) 2 2):=by
 refine qB (u1:=.slice (some ⟨w2.heap.size,0,none⟩) 1 1) (u2:=.slice z0 z1 z2) (by simp [go_sem]) (by simp [go_sem]) ?_ (o2.keep (iJ _ _ _))
 exact (pO (show (w2.alloc (.cells #[str F] 9)).cell? ⟨w2.heap.size,0,none⟩ = some (str F) by simp [go_sem])).keep (bH _ _)
theorem listsA3 {W w2 : World} {B : Nat} {F : Bs} {l m : List Bs} {y0 z0 : Option Addr} {y1 y2 z1 z2 : Nat} (hB : W.heap.size = B) (b2 : Below (W.alloc (.cells #[str F] 9)).drew.heap.size (W.alloc (.cells #[str F] 9)).drew w2)
  (o1 : aU W l (.slice y0 y1 y2)) (o2 : aU w2 m (.slice z0 z1 z2)) (T : TypeId) :
  fQ (w2.alloc (.cells #[.slice y0 y1 y2,.slice (some ⟨B,0,none⟩) 1 1,.slice z0 z1 z2] T)) [l,[F],m] (.slice (some ⟨w2.heap.size,0,none⟩) 3 3) :=
 pB (u1:=.slice y0 y1 y2) (u2:=.slice (some ⟨B,0,none⟩) 1 1) (u3:=.slice z0 z1 z2) (by simp [go_sem]) (by simp [go_sem]) (by simp [go_sem])
  (o1.keep ((((bH _ _).trans (dC _)).trans (aA b2)).trans (bH _ _))) ((pO (MN hB b2)).keep (bH _ _)) (o2.keep (bH _ _))
theorem listsB3 {W w2 : World} {F : Bs} {l m : List Bs} {y0 z0 : Option Addr} {y1 y2 z1 z2 : Nat} (b2 : Below W.drew.heap.size W.drew w2) (o1 : aU W l (.slice y0 y1 y2)) (o2 : aU w2 m (.slice z0 z1 z2)) (T : TypeId) :
  fQ ((w2.alloc (.cells #[str F] 9)).alloc (.cells #[.slice y0 y1 y2,.slice (some ⟨w2.heap.size,0,none⟩) 1 1,.slice z0 z1 z2] T)) [l,[F],m] (.slice (some ⟨w2.heap.size + 1,0,none⟩) 3 3):=by
 refine pB (u1:=.slice y0 y1 y2) (u2:=.slice (some ⟨w2.heap.size,0,none⟩) 1 1) (u3:=.slice z0 z1 z2) (by simp [go_sem]) (by simp [go_sem]) (by simp [go_sem])
  (o1.keep (((dC _).trans (aA b2)).trans (iJ _ _ _))) ?_ (o2.keep (iJ _ _ _))
 exact (pO (show (w2.alloc (.cells #[str F] 9)).cell? ⟨w2.heap.size,0,none⟩ = some (str F) by simp [go_sem])).keep (bH _ _)
theorem KN {W w2 : World} {p : Addr} {v : Value} (b2 : Below W.drew.heap.size W.drew w2) (h : W.cell? p = some v) : w2.cell? p = some v ∧ p.block < w2.heap.size :=
 have e:=aA b2 _ _ (dC _ _ _ h)
 ⟨e,World.block_lt_of_cell? w2 _ e⟩
def FW (f : Fm) : Prop:=∀ (a : Option Addr) (k c : Nat) (a' : Option Addr) (m d : Nat) (w : World),bI w f.args (.slice a k c) → cD w f.sub (.slice a' m d) → f.words.length ≤ 1000000 →
 Calls Tryz.prog 161 #[.agg #[.int .u8 f.op,str f.name,.slice a k c,.slice a' m d]] w (iQ f.words w)
theorem flat2_ok {F : Bs} {m : List Bs} (hm : m ≠ []) (hl : m.length ≤ 1000000) : (∀ l ∈ ([[F],m] : List (List Bs)),l ≠ []) ∧ ([[F],m] : List (List Bs)).flatten.length * 16 ≤ 140737488355328 ∧ ([[F],m] : List (List Bs)).flatten = F :: m:=by
 refine ⟨?_, ?_,by simp⟩
 ·intro l hl;simp only [List.mem_cons,List.mem_nil_iff,or_false] at hl
  rcases hl with rfl | rfl
  ·simp
  ·exact hm
 ·simp only [List.flatten_cons,List.flatten_nil,List.length_append,List.length_nil,List.length_cons];omega
theorem flat3_ok {F : Bs} {l m : List Bs} (h0 : l ≠ []) (hm : m ≠ []) (hl : l.length ≤ 2000000) (hl2 : m.length ≤ 1000000) : (∀ x ∈ ([l,[F],m] : List (List Bs)),x ≠ []) ∧ ([l,[F],m] : List (List Bs)).flatten.length * 16 ≤ 140737488355328 ∧ ([l,[F],m] : List (List Bs)).flatten = l ++ F :: m:=by
 refine ⟨?_, ?_,by simp⟩
 ·intro x hx;simp only [List.mem_cons,List.mem_nil_iff,or_false] at hx
  rcases hx with rfl | rfl | rfl
  ·exact h0
  ·simp
  ·exact hm
 ·simp only [List.flatten_cons,List.flatten_nil,List.length_append,List.length_nil,List.length_cons];omega
set_option maxHeartbeats 2000000 in
theorem words_sub (op : Int) (n : Bs) (hop : 3 ≤ op ∧ op ≤ 14) (hn : n.length ≤ 1000000) (g : Fm) (gs : List Fm) (hg : FW g) (hgs : ∀ h ∈ gs,FW h ∧ h.words ≠ [] ∧ h.words.length ≤ 1000000) (hlen : gs.length ≤ 1) (hl : g.words.length ≤ 1000000) (hne : g.words ≠ [])
  (a : Option Addr) (k c : Nat) (b off m d : Nat) (w : World) (x : Option Addr) (x1 x2 : Nat) (y : Option Addr) (y1 y2 : Nat) (hc : wA w b off g x x1 x2 y y1 y2)
  (hcs : ∀ h ∈ gs,∃ x x1 x2 y y1 y2,wA w b (off + 4) h x x1 x2 y y1 y2) (hm : m = gs.length + 1) (hd : m ≤ d) :
  Calls Tryz.prog 161 #[.agg #[.int .u8 op,str n,.slice a k c,.slice (some ⟨b,off,none⟩) m d]] w (iQ (aM op n :: (g.words ++ bT op false gs)) w):=by
 have t1 : (op == 1) = false:=by simp;omega
 have t2 : (op == 2) = false:=by simp;omega
 have m1 : 0 < m:=by omega
 have m2 : m ≤ 2:=by omega
 have HM:=Hd hm
 have OP:=Hd hop
 have HN:=Hd hn
 have HG:=Hd hg
 have HGS:=Hd hgs
 have HCS:=Hd hcs
 have HLEN:=Hd hlen
 have HL:=Hd hl
 have NE:=Hd hne
 have HC:=Hd hc
 clear hop hn hg hl hne hc hgs hcs hlen hm
 go_enter Tryz.func161,Tryz.ntmps161
 go_wp2_with fail
 refine (GI op n _ _ _ _ _ _ _ OP.out HN.out).mono ?_
 rintro e w1 ⟨rfl,h1⟩
 obtain ⟨hc1,hf1⟩:=eP h1
 have C0:=Hd ((bB h1).alloc (bB h1).size (.cells #[str (aM op n),str (aG op)] 208))
 have K0:=Hd (aA (bB h1))
 have D0:=K0.out _ _ HC.out.c0;have D1:=K0.out _ _ HC.out.c1;have D2:=K0.out _ _ HC.out.c2;have D3:=K0.out _ _ HC.out.c3
 have A1:=Hd (HC.out.at_.keep K0.out)
 have A2:=Hd (HC.out.at'.keep K0.out)
 generalize hFe : aM op n = F at *
 generalize hGe : aG op = G at *
 have FE:=Hd hFe
 have GE:=Hd hGe
 clear hFe hGe
 have F2:=Hd (flat2_ok (F:=F) NE.out HL.out)
 have e3 : w1.cell? ⟨w.heap.size,3,none⟩ = some (.slice (some ⟨b,off,none⟩) m d):=by rw [hc1 _ _ (by simp)];simp [go_sem]
 have S1 : w.heap.size < w1.heap.size:=by have:=h1.size;simp at this;omega
 have S2 : b < w1.heap.size:=World.block_lt_of_cell? w1 ⟨b,off,none⟩ D0
 have WF : Hid ((w1.alloc (.cells #[str F,str G] 208)).cell? ⟨w1.heap.size,0,none⟩ = some (str F)):=by show _ = _;simp [go_sem]
 have WG : Hid ((w1.alloc (.cells #[str F,str G] 208)).cell? ⟨w1.heap.size,1,none⟩ = some (str G)):=by show _ = _;simp [go_sem]
 have W1 : Hid ((w1.alloc (.cells #[str F,str G] 208)).heap.size = w1.heap.size + 1):=by show _ = _;simp
 have E3:=Hd e3
 go_upto_region 7 with fail
 clear hc1 hf1
 go_cut [4] from 19 to 28 (fun v wx=>Hid (aI w.heap.size wx (F :: g.words) v ∧ Below w.heap.size w wx ∧ aR (w1.alloc (.cells #[str F,str G] 208)) wx))
 case first =>
  go_region_with (first
   | (go_at_call 161;refine (HG.out _ _ _ _ _ _ _ (A1.out.keep ((iJ _ _ _).trans (dC _))) (A2.out.keep ((iJ _ _ _).trans (dC _))) HL.out).mono ?_;rintro e w2 ⟨v2,rfl,o2,b2⟩;obtain ⟨z0,z1,z2,rfl⟩:=o2.strsAt.slice;have LS:=Hd (listsA2 W1.out b2 o2.strsAt 36);have BB:=Hd (NM C0.out b2);clear o2 b2)
   | (go_at_call 161;refine (HG.out _ _ _ _ _ _ _ (A1.out.keep ((bH _ _).trans (dC _))) (A2.out.keep ((bH _ _).trans (dC _))) HL.out).mono ?_;rintro e w2 ⟨v2,rfl,o2,b2⟩;obtain ⟨z0,z1,z2,rfl⟩:=o2.strsAt.slice;have LS:=Hd (listsB2 (F:=F) o2.strsAt 36);have BB:=Hd (NQ C0.out b2);obtain ⟨e20,S3⟩:=KN b2 WF.out;clear o2 b2)
   | (go_at_call 68;refine (kB _ _ _ _ _ LS.out F2.out.1 F2.out.2.1).mono ?_;rintro e w3 ⟨v3,rfl,o3,b3⟩;rw [F2.out.2.2] at o3;have R:=Hd (MZ BB.out o3 b3);clear o3 b3)
   | (go_at_call 68;refine (kB _ _ _ _ _ LS.out F2.out.1 F2.out.2.1).mono ?_;rintro e w3 ⟨v3,rfl,o3,b3⟩;rw [F2.out.2.2] at o3;have R:=Hd (NA BB.out o3 b3);clear o3 b3))
  all_goals (go_wp2_with fail;go_meet;exact R)
 case rest =>
  have f3:=hcut.out.2.2 _ _ (bH _ _ _ _ E3.out)
  have f4:=hcut.out.2.2 _ _ WG.out
  clear e3 D0 D1 D2 D3 S1 S2
  have hl1:=HLEN.out
  rcases gs with _ | ⟨h,_ | ⟨_,_⟩⟩
  ·have hm : m = 1:=HM.out
   subst hm
   go_wp2_with fail
   go_ret
   exact ⟨_,rfl,by rw [show (F :: (g.words ++ bT op false [])) = F :: g.words by simp [bT]];exact hcut.out.1,hcut.out.2.1⟩
  ·have hm : m = 2:=HM.out
   subst hm
   obtain ⟨x,x1,x2,y,y1,y2,hc⟩:=HCS.out h (by simp)
   have K1 : aR w wc:=K0.out.trans ((bH _ _).trans hcut.out.2.2)
   have D0:=K1 _ _ hc.c0;have D1:=K1 _ _ hc.c1;have D2:=K1 _ _ hc.c2;have D3:=K1 _ _ hc.c3
   have A1:=Hd (hc.at_.keep K1)
   have A2:=Hd (hc.at'.keep K1)
   have S1 : w.heap.size < wc.heap.size:=World.block_lt_of_cell? wc ⟨w.heap.size,3,none⟩ f3
   have S2 : b < wc.heap.size:=World.block_lt_of_cell? wc ⟨b,off + 4,none⟩ D0
   have S3 : w1.heap.size < wc.heap.size:=World.block_lt_of_cell? wc ⟨w1.heap.size,1,none⟩ f4
   have HH:=Hd (HGS.out h (by simp))
   have F4:=Hd f4
   have F3:=Hd (flat3_ok (F:=G) (l:=F :: g.words) (m:=h.words) (by simp) HH.out.2.1 (by have:=HL.out;simp;omega) HH.out.2.2)
   have EE : Hid (F :: g.words ++ G :: h.words = F :: (g.words ++ bT op false [h])):=by show _ = _;simp [bT,GE.out]
   obtain ⟨v0,v1,v2,rfl⟩:=hcut.out.1.strsAt.slice
   have V:=Hd hcut.out.1.strsAt
   have CB:=Hd hcut.out.2.1
   clear hc K1 hl1
   clear hcut
   go_wp2_with fail
   go_region_with (first
    | (go_at_call 161;refine (HH.out.1 _ _ _ _ _ _ _ (A1.out.keep ((bH _ _).trans (dC _))) (A2.out.keep ((bH _ _).trans (dC _))) HH.out.2.2).mono ?_;rintro e w2 ⟨v2,rfl,o2,b2⟩;obtain ⟨z0,z1,z2,rfl⟩:=o2.strsAt.slice;have LS:=Hd (listsA3 rfl b2 V.out o2.strsAt 36);have BB:=Hd (NM CB.out b2);clear o2 b2)
    | (go_at_call 161;refine (HH.out.1 _ _ _ _ _ _ _ (A1.out.keep (dC _)) (A2.out.keep (dC _)) HH.out.2.2).mono ?_;rintro e w2 ⟨v2,rfl,o2,b2⟩;obtain ⟨z0,z1,z2,rfl⟩:=o2.strsAt.slice;have LS:=Hd (listsB3 (F:=G) b2 V.out o2.strsAt 36);have BB:=Hd (NQ CB.out b2);obtain ⟨e20,S5⟩:=KN b2 F4.out;clear o2 b2)
    | (go_at_call 68;refine (kB _ _ _ _ _ LS.out F3.out.1 F3.out.2.1).mono ?_;rintro e w3 ⟨v3,rfl,o3,b3⟩;rw [F3.out.2.2] at o3;have R:=Hd (MZ BB.out o3 b3);clear o3 b3)
    | (go_at_call 68;refine (kB _ _ _ _ _ LS.out F3.out.1 F3.out.2.1).mono ?_;rintro e w3 ⟨v3,rfl,o3,b3⟩;rw [F3.out.2.2] at o3;have R:=Hd (NA BB.out o3 b3);clear o3 b3))
   all_goals (go_wp2_with fail;go_ret;rw [EE.out] at R;exact ⟨_,rfl,R.out.1,R.out.2.1⟩)
  ·simp at hl1
end Go.Proofs.YtcandidgaegghaaGreatDoor
