/- lyceumkit.LentTerm, LentTerms, LentForm, LentForms: what they make. Conditions: at most a thousand nodes. -/
import Derived.Test.YtcandidgaegghaaGreatDoorCpZ
import Derived.Test.YtcandidgaegghaaGreatDoorOvAZ
import Derived.Test.YtcandidgaegghaaGreatDoorRdEZ
import Derived.Test.YtcandidgaegghaaGreatDoorAwakeZ
import Derived.Test.YtcandidgaegghaaGreatDoorRdGZ
import Derived.OwnWalk
set_option maxRecDepth 10000
set_option linter.unusedSimpArgs false
set_option linter.unusedVariables false
namespace Go.Proofs.YtcandidgaegghaaGreatDoor
open Go Go.RowKit Ly
set_option maxHeartbeats 1600000
theorem mark_run (i : Nat) (hi : i < 12) (w : World) : (convert 43 9 (.slice (some ⟨w.heap.size,0,none⟩) 8 8)).run Tryz.prog (w.alloc (.cells #[.int .u8 35,.int .u8 1,.int .u8 0,.int .u8 0,.int .u8 47,.int .u8 i,.int .u8 0,.int .u8 0] 5)) = .ok (str (bD i)) (w.alloc (.cells #[.int .u8 35,.int .u8 1,.int .u8 0,.int .u8 0,.int .u8 47,.int .u8 i,.int .u8 0,.int .u8 0] 5)):=by
 have h:=run_convert_bytes_back (P:=Tryz.prog) (w.alloc (.cells #[.int .u8 35,.int .u8 1,.int .u8 0,.int .u8 0,.int .u8 47,.int .u8 i,.int .u8 0,.int .u8 0] 5)) 43 9 5 ⟨w.heap.size,0,none⟩ 8 (bD i) Tryz.underlying43 Tryz.underlying5 Tryz.underlying9 (fun j hj=>by
  have hl : (bD i).length = 8:=rfl
  rw [show ((⟨w.heap.size,0,none⟩ : Addr).add j) = ⟨w.heap.size,j,none⟩ by simp [Addr.add];omega,box_cell (heap_alloc_new w _)]
  rcases (show j = 0 ∨ j = 1 ∨ j = 2 ∨ j = 3 ∨ j = 4 ∨ j = 5 ∨ j = 6 ∨ j = 7 by omega) with rfl | rfl | rfl | rfl | rfl | rfl | rfl | rfl
  all_goals first
   | rfl
   | (show some (Value.int .u8 i) = some (.int .u8 ((UInt8.ofNat i).toNat : Int));have : (UInt8.ofNat i).toNat = i:=(by simp;omega);rw [this]))
 exact h
theorem jK (i : Nat) (hi : i < 12) (w : World) : Calls Tryz.prog 182 #[.int .i64 1,.int .i64 i] w (Rt (str (bD i)) w):=by
 rcases (show i = 0 ∨ i = 1 ∨ i = 2 ∨ i = 3 ∨ i = 4 ∨ i = 5 ∨ i = 6 ∨ i = 7 ∨ i = 8 ∨ i = 9 ∨ i = 10 ∨ i = 11 by omega) with rfl | rfl | rfl | rfl | rfl | rfl | rfl | rfl | rfl | rfl | rfl | rfl
 all_goals
  have hrun:=mark_run _ hi w
  push_cast at hrun
  clear hi
  go_enter Tryz.func182,Tryz.ntmps182
  go_wp2_with fail
  go_ret
  exact ⟨rfl,bnew⟩
theorem xU (i : Nat) (hi : i < 12) (w : World) : Calls Tryz.prog 206 #[.int .i64 1,.int .i64 i] w (Rt (.agg #[.bool false,str (bD i),.slice none 0 0]) w):=by
 have HB : Hid (Below w.heap.size w (w.alloc (.cells #[.bool false,str [],.slice none 0 0] 95))):=bnew
 have HG:=Hd (heap_alloc_new w (.cells #[.bool false,str [],.slice none 0 0] 95))
 have R : Hid (∀ W,Calls Tryz.prog 182 #[.int .i64 1,.int .i64 i] W (Rt (str (bD i)) W)):=fun W=>jK i hi W
 generalize bD i = M at R
 go_enter Tryz.func206,Tryz.ntmps206
 go_wp2_with (go_at_call 182;refine (R.out _).mono ?_;rintro e w1 ⟨rfl,b1⟩;have B1:=Hd (aB HB.out b1);have G1:=Hd (kc b1 HG.out);clear b1;obtain ⟨c0,c1,c2,f0,f1,f2⟩:=vQ G1.out)
 have g1:=aC (o:=0) (u:=.bool false) G1.out
 have g2:=aC (o:=1) (u:=str M) g1
 have g3:=aC (o:=2) (u:=.slice none 0 0) g2
 refine bodyPost_ret (GC rfl _ _ w.heap.size _ _ _ (0,0) rfl g3) rfl ?_
 exact ⟨rfl,((B1.out.setCell (by simp) _).setCell (by simp) _).setCell (by simp) _⟩
theorem xT (i : Nat) (hi : i < 12) (w : World) : Calls Tryz.prog 207 #[.int .i64 1,.int .i64 i] w (Rt (.agg #[.int .u8 0,str (bD i),.slice none 0 0,.slice none 0 0]) w):=by
 have HB : Hid (Below w.heap.size w (w.alloc (.cells #[.int .u8 0,str [],.slice none 0 0,.slice none 0 0] 25))):=bnew
 have HG:=Hd (heap_alloc_new w (.cells #[.int .u8 0,str [],.slice none 0 0,.slice none 0 0] 25))
 have R : Hid (∀ W,Calls Tryz.prog 182 #[.int .i64 1,.int .i64 i] W (Rt (str (bD i)) W)):=fun W=>jK i hi W
 generalize bD i = M at R
 go_enter Tryz.func207,Tryz.ntmps207
 go_wp2_with (go_at_call 182;refine (R.out _).mono ?_;rintro e w1 ⟨rfl,b1⟩;have B1:=Hd (aB HB.out b1);have G1:=Hd (kc b1 HG.out);clear b1;obtain ⟨c0,c1,c2,c3,f0,f1,f2,f3⟩:=iA G1.out)
 have g1:=aC (o:=0) (u:=.int .u8 0) G1.out
 have g2:=aC (o:=1) (u:=str M) g1
 have g3:=aC (o:=2) (u:=.slice none 0 0) g2
 have g4:=aC (o:=3) (u:=.slice none 0 0) g3
 refine bodyPost_ret (jF rfl _ _ w.heap.size _ _ _ _ (0,0) rfl g4) rfl ?_
 exact ⟨rfl,(((B1.out.setCell (by simp) _).setCell (by simp) _).setCell (by simp) _).setCell (by simp) _⟩
theorem mV {w w' : World} {B g n c size : Nat} {e : TypeId} {xs : List Value} (h : w.ownsRow B e size (.slice (some ⟨g,0,none⟩) n c) n xs) (hb : w'.heap[g]? = w.heap[g]?) : w'.ownsRow B e size (.slice (some ⟨g,0,none⟩) n c) n xs:=by
 refine ⟨h.1, ?_⟩
 rcases h.2 with ⟨h1,_⟩ | ⟨g',cap,cur,h1,h2,h3,h4⟩
 ·cases h1
 ·simp only [Value.slice.injEq,Option.some.injEq,Addr.mk.injEq,and_true,true_and] at h1
  obtain ⟨rfl,rfl⟩:=h1
  exact .inr ⟨g,c,cur,rfl,h2,hb.trans h3,h4⟩
theorem below_grown {w w' : World} {B : Nat} {row : Option Nat} (h : w.grownBy w' row) (hr : ∀ g,row = some g → B ≤ g) (hB : B ≤ w.heap.size) : Below B w w' :=
 ⟨h.os,h.tape,h.output,h.size,fun k hk=>h.block k (Nat.lt_of_lt_of_le hk hB) (fun e=>by have:=hr k e.symm;omega)⟩
structure jC (w : World) (l : List Tm) (g k j i : Nat) (W : World) : Prop where
 own : ∃ xs,W.ownsRow g 95 3 (.slice (some ⟨g,0,none⟩) (j + i) (k + 12)) (j + i) (xs ++ gF i) ∧ TmsC (hide (fun n=>decide (n < g + 1)) W) (l.take j) xs
 bw : Below w.heap.size w W
 lt : g < W.heap.size
 ge : w.heap.size ≤ g
theorem bK {W W' : World} {g : Nat} (b : ∀ k,k < W.heap.size → g < k → W'.heap[k]? = W.heap[k]?) : aR (hide (fun n=>decide (n < g + 1)) W) (hide (fun n=>decide (n < g + 1)) W') :=
 aV fun k h1 h2=>⟨h2,b k h1 (by simp at h2;omega)⟩
theorem jC.moved {w : World} {l : List Tm} {g k j i : Nat} {W W' : World} (h : jC w l g k j i W) (b : Below W.heap.size W W') : jC w l g k j i W':=by
 obtain ⟨⟨xs,h1,h2⟩,h3,h4,h5⟩:=h
 exact ⟨⟨xs,mV h1 (b.block g h4),TmsC.keep (bK fun k h _=>b.block k h) _ _ h2⟩,aB h3 b,Nat.lt_of_lt_of_le h4 b.size,h5⟩
theorem jC.put {w : World} {l : List Tm} {g k j : Nat} {W W' : World} {T : Tm} {c xs : List Value} (h2 : TmsC (hide (fun n=>decide (n < g + 1)) W) (l.take j) xs) (h3 : Below w.heap.size w W) (h4 : g < W.heap.size) (h5 : w.heap.size ≤ g) (hT : l[j]? = some T) (hc : TmL (hide (fun n=>decide (n < g + 1)) W) T c)
  (ho : W'.ownsRow g 95 3 (.slice (some ⟨g,0,none⟩) (j + 1) (k + 12)) (j + 1) (xs ++ c)) (hg : W.grownBy W' (some g)) : jC w l g k (j + 1) 0 W':=by
 have K : aR (hide (fun n=>decide (n < g + 1)) W) (hide (fun n=>decide (n < g + 1)) W'):=bK fun k h h'=>hg.block k h (by simp;omega)
 refine ⟨⟨xs ++ c,by simpa [gF] using ho, ?_⟩,h3.trans (below_grown hg (fun x e=>by cases e;exact h5) (Nat.le_trans h5 (Nat.le_of_lt h4))),Nat.lt_of_lt_of_le h4 hg.size,h5⟩
 have e : l.take (j + 1) = l.take j ++ [T]:=by rw [List.take_add_one,hT];rfl
 rw [e]
 exact TmsC.put (TmsC.keep K _ _ h2) (TmL.keep K _ _ hc)
theorem jC.mark {w : World} {l : List Tm} {g k i : Nat} {W W' : World} {xs : List Value} (h2 : TmsC (hide (fun n=>decide (n < g + 1)) W) (l.take k) xs) (h3 : Below w.heap.size w W) (h4 : g < W.heap.size) (h5 : w.heap.size ≤ g)
  (ho : W'.ownsRow g 95 3 (.slice (some ⟨g,0,none⟩) (k + i + 1) (k + 12)) (k + i + 1) (xs ++ gF i ++ [.bool false,str (bD i),.slice none 0 0])) (hg : W.grownBy W' (some g)) : jC w l g k k (i + 1) W':=by
 have K : aR (hide (fun n=>decide (n < g + 1)) W) (hide (fun n=>decide (n < g + 1)) W'):=bK fun k h h'=>hg.block k h (by simp;omega)
 refine ⟨⟨xs, ?_,TmsC.keep K _ _ h2⟩,h3.trans (below_grown hg (fun x e=>by cases e;exact h5) (Nat.le_trans h5 (Nat.le_of_lt h4))),Nat.lt_of_lt_of_le h4 hg.size,h5⟩
 rw [tmMarks_succ,← List.append_assoc]
 exact ho
theorem jC.lent {w : World} {l : List Tm} {g k : Nat} {W : World} (h : jC w l g k k 12 W) (hk : k = l.length) (hm : k + 12 ≤ maxLen) : dJ (hide (lo w) W) l (.slice (some ⟨g,0,none⟩) k (k + 12)):=by
 obtain ⟨⟨xs,h1,h2⟩,h3,h4,h5⟩:=h
 rw [List.take_of_length_le (by omega)] at h2
 subst hk
 refine ⟨g,_,xs,rfl,Nat.le_refl _,hm, ?_, ?_⟩
 ·intro j u hu
  have:=h1.cells (g:=g) rfl j u hu
  rw [show ((⟨g,0,none⟩ : Addr).add j) = ⟨g,j,none⟩ by simp [Addr.add];omega] at this
  rw [eZ (by simp [lo];omega)]
  exact this
 ·exact TmsC.keep (aV fun k h6 h7=>⟨by simp at h7;simp [lo];omega,rfl⟩) _ _ h2
theorem jC.new {w w1 : World} {l : List Tm} {k : Nat} (h : w1.ownsRow w.heap.size 95 3 (.slice (some ⟨w.heap.size,0,none⟩) 0 (k + 12)) 0 []) (hg : w.grownBy w1 none) : jC w l w.heap.size k 0 0 w1 :=
 ⟨⟨[],by simpa [gF] using h,by rw [List.take_zero,TmsC]⟩,below_grown hg (fun _ e=>by cases e) (Nat.le_refl _),(h.lt _ rfl).2,Nat.le_refl _⟩
theorem jC.first {w W : World} {l : List Tm} {g k j : Nat} (h : jC w l g k j 0 W) : ∃ xs,W.ownsRow g 95 3 (.slice (some ⟨g,0,none⟩) j (k + 12)) j xs ∧ TmsC (hide (fun n=>decide (n < g + 1)) W) (l.take j) xs:=by
 obtain ⟨xs,h1,h2⟩:=h.own
 exact ⟨xs,by simpa [gF] using h1,h2⟩
theorem news3' (w : World) (o : Obj) (a b c : Value) (t : TypeId) : ∀ (j : Nat) (u : Value),[a,b,c][j]? = some u → ((w.alloc o).alloc (.cells #[a,b,c] t)).cell? ((⟨w.heap.size + 1,0,none⟩ : Addr).add j) = some u:=by
 have:=JP (w.alloc o) a b c t
 rwa [World.size_alloc] at this
def LtS (l : List Tm) : Prop:=∀ (w : World) (a : Option Addr) (k c : Nat),bI w l (.slice a k c) → aD l ≤ 1000 → Calls Tryz.prog 126 #[.slice a k c] w fun e w'=>∃ b cap,e = .returned (.slice (some ⟨b,0,none⟩) k cap) ∧ dJ (hide (lo w) w') l (.slice (some ⟨b,0,none⟩) k cap) ∧ Below w.heap.size w w'
def LtT (t : Tm) : Prop:=∀ (w : World) (x : Value),iS w t x → t.nodes ≤ 1000 → Calls Tryz.prog 205 #[x] w fun e w'=>∃ b n cap,e = .returned (.agg #[.bool t.v,str t.name,.slice (some ⟨b,0,none⟩) n cap]) ∧ dJ (hide (lo w) w') t.args (.slice (some ⟨b,0,none⟩) n cap) ∧ Below w.heap.size w w'
theorem lt_of (t : Tm) (h : LtS t.args) : LtT t:=by
 intro w x hx hn
 obtain ⟨a,k,c,rfl,hx⟩:=hx
 have hna : aD t.args ≤ 1000:=by cases t;rw [Tm.nodes] at hn;simp only [Tm.args];omega
 have K2:=iJ w (.cells #[.bool t.v,str t.name,.slice a k c] 95) (.cells #[.bool false,str [],.slice none 0 0] 95)
 have R:=Hd (h ((w.alloc (.cells #[.bool t.v,str t.name,.slice a k c] 95)).alloc (.cells #[.bool false,str [],.slice none 0 0] 95)) a k c (hx.keep K2) hna)
 have G0 : Hid (((w.alloc (.cells #[.bool t.v,str t.name,.slice a k c] 95)).alloc (.cells #[.bool false,str [],.slice none 0 0] 95)).heap[w.heap.size]? = some (.cells #[.bool t.v,str t.name,.slice a k c] 95 (0,0))):=kc bnew (heap_alloc_new w _)
 have G1 : Hid (((w.alloc (.cells #[.bool t.v,str t.name,.slice a k c] 95)).alloc (.cells #[.bool false,str [],.slice none 0 0] 95)).heap[w.heap.size + 1]? = some (.cells #[.bool false,str [],.slice none 0 0] 95 (0,0))):=by
  have:=heap_alloc_new (w.alloc (.cells #[.bool t.v,str t.name,.slice a k c] 95)) (.cells #[.bool false,str [],.slice none 0 0] 95)
  rwa [World.size_alloc] at this
 clear h hx hn hna K2
 go_enter Tryz.func205,Tryz.ntmps205
 go_wp2_with (go_at_call 126;refine R.out.mono ?_;rintro e w1 ⟨b,cap,rfl,hl,b1⟩;have HL:=Hd (And.intro hl b1);have E0:=Hd (kc b1 G0.out);have E1:=Hd (kc b1 G1.out);clear hl b1;obtain ⟨c0,c1,c2,f0,f1,f2⟩:=row95' E0.out;obtain ⟨d0,d1,d2,h0,h1,h2⟩:=row95' E1.out)
 obtain ⟨hl,b1⟩:=HL.out
 have g0 : (w1.setCell ⟨w.heap.size,2,none⟩ (.slice (some ⟨b,0,none⟩) k cap)).heap[w.heap.size + 1]? = some (.cells #[.bool false,str [],.slice none 0 0] 95 (0,0)):=(Below.heap_setCell _ _ _ _ (by simp)).trans E1.out
 have g1:=aC (o:=0) (u:=.bool t.v) g0
 have g2:=aC (o:=1) (u:=str t.name) g1
 have g3:=aC (o:=2) (u:=.slice (some ⟨b,0,none⟩) k cap) g2
 have B : Below w.heap.size w w1:=iT b1
 refine bodyPost_ret (GC rfl _ _ (w.heap.size + 1) _ _ _ (0,0) rfl g3) rfl ?_
 refine ⟨b,k,cap,rfl,dJ.keep hl (aV fun i h1 h2=>?_),(((B.setCell (by simp) _).setCell (by simp) _).setCell (by simp) _).setCell (by simp) _⟩
 simp only [lo,World.size_alloc,decide_eq_false_iff_not,Nat.not_lt] at h2 ⊢
 exact ⟨by omega,by rw [Below.heap_setCell _ _ _ _ (by simp;omega),Below.heap_setCell _ _ _ _ (by simp;omega),Below.heap_setCell _ _ _ _ (by simp;omega),Below.heap_setCell _ _ _ _ (by simp;omega)]⟩
theorem kS : ∀ l : List Tm,l.length ≤ aD l
 | []=>Nat.le_refl _
 | t :: ts=>by have:=kS ts;cases t;rw [aD,Tm.nodes,List.length_cons];omega
theorem tmsNodes_mem {l : List Tm} {t : Tm} (h : t ∈ l) : t.nodes ≤ aD l:=by
 induction l with
 | nil=>cases h
 | cons x l ih =>
  rw [aD]
  rcases List.mem_cons.1 h with rfl | h
  ·omega
  ·have:=ih h;omega
theorem NH (v : Bool) (n : Bs) (u : Value) (hu : u.oneCell' = true) : ∀ x ∈ [Value.bool v,str n,u],x.oneCell' = true:=by
 intro x hx
 simp only [List.mem_cons,List.not_mem_nil,or_false] at hx
 rcases hx with rfl | rfl | rfl
 ·rfl
 ·rfl
 ·exact hu
theorem FG (l : List Tm) (hh : ∀ t ∈ l,LtT t) : LtS l:=by
 intro w a k c hx hn
 have hk:=hx.len
 have hlen : k ≤ 1000:=by have:=kS l;omega
 have L1:=Hd hk.1
 have H:=Hd hh
 have HX:=Hd hx
 have HN : Hid (∀ t ∈ l,t.nodes ≤ 1000):=fun t ht=>Nat.le_trans (tmsNodes_mem ht) hn
 obtain ⟨i0,hi0,hz0,hs0,hb0⟩:=info_parts GZ
 clear hk hh hx hn
 go_enter Tryz.func126,Tryz.ntmps126
 go_wp2_with (at_make;refine wpList_make_own _ rfl _ _ 22 rfl w.heap.size 95 i0 (.agg #[.bool false,.string ⟨#[]⟩,.slice none 0 0]) 3 Tryz.underlying22 hi0 hz0 hs0 _ _ _ (k + 12) rfl rfl (by first | rfl | omega) (by rw [hb0];omega) (by unfold maxLen;omega) (Nat.le_refl _) ?_;intro w1 hown1 hgrow1)
 go_loopw [3,4] (fun u i wr=>∃ j : Nat,j ≤ k ∧ i = .int .i64 j ∧ u = .slice (some ⟨w.heap.size,0,none⟩) j (k + 12) ∧ Hid (jC w l w.heap.size k j 0 wr)) (fun _ i _=>k - (intOf i).toNat)
 case atStart=>exact ⟨0,Nat.zero_le _,rfl,rfl,jC.new hown1 hgrow1⟩
 case round =>
  clear hown1 hgrow1
  obtain ⟨j,hj,rfl,rfl,hs⟩:=hrel
  by_cases hlt : j < k
  ·obtain ⟨T,hT⟩:=aF (l:=l) (j:=j) (by rw [← L1.out];exact hlt)
   obtain ⟨bb,off,rfl,hc⟩:=HX.out.get (aJ hT)
   obtain ⟨y0,y1,y2,hy⟩:=hc j _ hT
   have hK:=aA hs.out.bw
   have c0:=hK _ _ hy.c0;have c1:=hK _ _ hy.c1;have c2:=hK _ _ hy.c2
   have X : Hid (iS wr T (.agg #[.bool T.v,str T.name,.slice y0 y1 y2])):=⟨_,_,_,rfl,hy.at_.keep hK⟩
   have HT:=Hd hT
   clear hc hy hT hK
   go_wp2_with (first
    | (go_at_call 205;refine (H.out T (List.mem_of_getElem? HT.out) _ _ X.out (HN.out T (List.mem_of_getElem? HT.out))).mono ?_;rintro e w3 ⟨b,n,cap,rfl,hl,b3⟩;obtain ⟨xs,o3,t3⟩:=(hs.out.moved b3).first;have OW:=Hd o3;have TC:=Hd t3;have HL:=Hd (And.intro hl b3);clear hl b3 o3 t3)
    | (at_builtin;refine wpList_append_fits _ rfl _ _ 22 rfl w.heap.size 95 i0 3 Tryz.underlying22 hi0 hs0 w.heap.size j (k + 12) _ rfl ((OW.out.alloc _).alloc _) ⟨w3.heap.size + 1,0,none⟩ 1 1 [.bool T.v,str T.name,.slice (some ⟨b,0,none⟩) n cap] rfl rfl (news3' _ _ _ _ _ _) (NH _ _ _ rfl) (by omega) ?_;intro w4 hown4 hgrow4))
   go_roundw
   case rel =>
    refine ⟨j + 1,by omega,by go_num,rfl, ?_⟩
    obtain ⟨hl,b3⟩:=HL.out
    have LR:=hs.out.moved b3
    have bA : ∀ o o',Below w3.heap.size w3 ((w3.alloc o).alloc o'):=fun o o'=>bnew.alloc (by simp) _
    have e1:=LR.lt
    have e2:=LR.ge
    have e3:=hs.out.lt
    exact jC.put (TmsC.keep (bK fun i h _=>(bA _ _).block i h) _ _ TC.out) (aB LR.bw (bA _ _)) (by simp;omega) e2 HT.out
     (DA.2 ⟨_,rfl,dJ.keep hl (aV fun i h1 h2=>by simp only [lo,decide_eq_false_iff_not,Nat.not_lt] at h2 ⊢;exact ⟨by omega,(bA _ _).block i h1⟩)⟩) hown4 hgrow4
   case measure=>simp [intOf];omega
  ·have hjk : j = k:=by omega
   have LR:=Hd hs.out
   subst hjk
   clear hs H HX HN
   go_wp2_with fail
   go_loopw [3,6] (fun u i wr=>∃ p : Nat,p ≤ 12 ∧ i = .int .i64 p ∧ u = .slice (some ⟨w.heap.size,0,none⟩) (j + p) (j + 12) ∧ Hid (jC w l w.heap.size j j p wr)) (fun _ i _=>12 - (intOf i).toNat)
   case atStart=>exact ⟨0,by omega,rfl,rfl,LR.out⟩
   case round =>
    clear LR
    obtain ⟨p,hp,rfl,rfl,hs⟩:=hrel
    by_cases hlt : p < 12
    ·go_wp2_with (first
      | (go_at_call 206;refine (xU p hlt _).mono ?_;rintro e w3 ⟨rfl,b3⟩;obtain ⟨xs,o3,t3⟩:=(hs.out.moved b3).own;have OW:=Hd o3;have TC:=Hd t3;have B3:=Hd b3;clear b3 o3 t3)
      | (at_builtin;refine wpList_append_fits _ rfl _ _ 22 rfl w.heap.size 95 i0 3 Tryz.underlying22 hi0 hs0 w.heap.size (j + p) (j + 12) _ rfl (OW.out.alloc _) ⟨w3.heap.size,0,none⟩ 1 1 [.bool false,str (bD p),.slice none 0 0] rfl rfl (JP _ _ _ _ _) (NH _ _ _ rfl) (by omega) ?_;intro w4 hown4 hgrow4))
     go_roundw
     case rel =>
      refine ⟨p + 1,by omega,by go_num,rfl, ?_⟩
      have LR:=hs.out.moved B3.out
      have bA : ∀ o,Below w3.heap.size w3 (w3.alloc o):=fun o=>bnew
      have e1:=LR.lt
      have e2:=LR.ge
      exact jC.mark (TmsC.keep (bK fun i h _=>(bA _).block i h) _ _ TC.out) (aB LR.bw (bA _)) (by simp;omega) e2 hown4 hgrow4
     case measure=>simp [intOf];omega
    ·have hp12 : p = 12:=by omega
     subst hp12
     have LE:=Hd (hs.out.lent L1.out (by unfold maxLen;omega))
     have LB:=Hd hs.out.bw
     clear hs
     go_wp2_with fail
     go_ret
     exact ⟨_,_,rfl,LE.out,LB.out⟩
mutual
theorem lentTerm_c : ∀ t : Tm,LtT t
 | .mk v n ts=>lt_of _ (FG ts (DQ ts))
theorem DQ : ∀ l : List Tm,∀ t ∈ l,LtT t
 | [],_,h=>by cases h
 | x :: xs,t,h=>by
  rcases List.mem_cons.1 h with e | e
  ·rw [e];exact lentTerm_c x
  ·exact DQ xs t e
end
theorem lentTerms_c (l : List Tm) : LtS l:=FG l (DQ l)
open Go Go.RowKit Ly
def cR (w : World) (k : Nat) (zs : List Value) (n : Nat) (u : Value) : Prop :=
 ∃ a cap,u = .slice a n cap ∧ n ≤ cap ∧ cap ≤ maxLen ∧ zs.length = n * k ∧ (n = 0 ∨ ∃ b off,a = some ⟨b,off,none⟩ ∧ ∀ j v,zs[j]? = some v → w.cell? ⟨b,off + j,none⟩ = some v)
theorem cR.keep {w w' : World} {k n : Nat} {zs : List Value} {u : Value} (h : cR w k zs n u) (K : aR w w') : cR w' k zs n u:=by
 obtain ⟨a,cap,h1,h2,h3,h4,h5⟩:=h
 refine ⟨a,cap,h1,h2,h3,h4,h5.elim .inl fun h=>.inr ?_⟩
 obtain ⟨b,off,e,hc⟩:=h
 exact ⟨b,off,e,fun j v hv=>K _ _ (hc j v hv)⟩
theorem cR.len {w : World} {k n m c : Nat} {zs : List Value} {a : Option Addr} (h : cR w k zs n (.slice a m c)) : m = n ∧ n ≤ c ∧ c ≤ maxLen ∧ zs.length = n * k:=by
 obtain ⟨a',cap,e,h1,h2,h3,_⟩:=h
 simp only [Value.slice.injEq] at e
 obtain ⟨_,rfl,rfl⟩:=e
 exact ⟨rfl,h1,h2,h3⟩
theorem cR.slice {w : World} {k n : Nat} {zs : List Value} {u : Value} (h : cR w k zs n u) : ∃ a c,u = .slice a n c:=by
 obtain ⟨a,c,e,_⟩:=h;exact ⟨a,c,e⟩
theorem cR.at {w : World} {k n m c : Nat} {zs : List Value} {a : Option Addr} (h : cR w k zs n (.slice a m c)) (hn : n ≠ 0) : ∃ b off,a = some ⟨b,off,none⟩ ∧ ∀ j v,zs[j]? = some v → w.cell? ⟨b,off + j,none⟩ = some v:=by
 obtain ⟨a',cap,e,_,_,_,h5⟩:=h
 simp only [Value.slice.injEq] at e
 obtain ⟨rfl,rfl,rfl⟩:=e
 exact h5.resolve_left hn
theorem cR.news {w : World} {k n m c : Nat} {zs : List Value} {a : Option Addr} (h : cR w k zs n (.slice a m c)) : ∀ ad,a = some ad → ∀ j v,zs[j]? = some v → w.cell? (ad.add j) = some v:=by
 intro ad e j v hv
 by_cases hn : n = 0
 ·have:=h.len.2.2.2
  subst hn
  have : zs = []:=List.eq_nil_of_length_eq_zero (by simpa using this)
  subst this;simp at hv
 ·obtain ⟨b,off,e',hc⟩:=h.at hn
  rw [e] at e';cases e'
  have : (⟨b,off,none⟩ : Addr).add j = ⟨b,off + j,none⟩:=by simp [Addr.add]
  rw [this];exact hc j v hv
theorem cR.none {w : World} {k n m c : Nat} {zs : List Value} (h : cR w k zs n (.slice none m c)) : m = 0 ∧ zs = []:=by
 have hl:=h.len
 by_cases hn : n = 0
 ·exact ⟨hl.1.trans hn,List.eq_nil_of_length_eq_zero (by rw [hl.2.2.2,hn];simp)⟩
 ·obtain ⟨b,off,e',_⟩:=h.at hn;cases e'
theorem xB {w : World} {k n : Nat} {zs : List Value} {u : Value} (h : At w (.sl k n (zs.map D.val)) u) : cR w k zs n u:=by
 obtain ⟨a,cap,h1,h2,h3,h4,h5⟩:=h.sl_inv
 refine ⟨a,cap,h1,h2,h3,by simpa using h4,h5.elim .inl fun h=>.inr ?_⟩
 obtain ⟨b,off,e,hc⟩:=h
 refine ⟨b,off,e,fun j v hv=>?_⟩
 obtain ⟨u',h6,h7⟩:=hc j (.val v) (by rw [List.getElem?_map,hv];rfl)
 have h7' : u' = v:=h7
 rw [← h7'];exact h6
theorem cR.to {w : World} {k n : Nat} {zs : List Value} {u : Value} (h : cR w k zs n u) : At w (.sl k n (zs.map D.val)) u:=by
 obtain ⟨a,cap,rfl,h2,h3,h4,h5⟩:=h
 refine ⟨a,cap,rfl,h2,h3,by simpa using h4,h5.elim .inl fun h=>.inr ?_⟩
 obtain ⟨b,off,e,hc⟩:=h
 refine ⟨b,off,e,kJ.mk fun j d hd=>?_⟩
 rw [List.getElem?_map] at hd
 obtain ⟨v,hv,rfl⟩:=Option.map_eq_some_iff.1 hd
 exact ⟨v,hc j v hv,rfl⟩
def eI (w : World) (k : Nat) (zs ms : List Value) (n : Nat) (u : Value) : Prop :=
 ∃ b cap,u = .slice (some ⟨b,0,none⟩) n cap ∧ n + 12 ≤ cap ∧ cap ≤ maxLen ∧ zs.length = n * k ∧ jW w b (zs ++ ms)
theorem eI.keep {w w' : World} {k n : Nat} {zs ms : List Value} {u : Value} (h : eI w k zs ms n u) (K : aR w w') : eI w' k zs ms n u:=by
 obtain ⟨b,cap,h1,h2,h3,h4,h5⟩:=h
 exact ⟨b,cap,h1,h2,h3,h4,h5.keep K⟩
theorem eI.flat {w : World} {k n : Nat} {zs ms : List Value} {u : Value} (h : eI w k zs ms n u) : cR w k zs n u:=by
 obtain ⟨b,cap,rfl,h2,h3,h4,h5⟩:=h
 refine ⟨_,_,rfl,by omega,h3,h4,.inr ⟨b,0,rfl,fun j v hv=>?_⟩⟩
 rw [Nat.zero_add];exact h5.left j v hv
/- Marks. -/
def fL (i : Nat) : Int:=8000024 + i
def oQ (i : Nat) : List Value:=[.int .i64 (fL i)]
def uQ (i : Nat) : List Value:=[str (bD i)]
def marksOf (f : Nat → List Value) (n : Nat) : List Value:=(List.range n).flatMap f
theorem kP (f : Nat → List Value) (n : Nat) : marksOf f (n + 1) = marksOf f n ++ f n:=by simp [marksOf,List.range_succ]
theorem vI (f : Nat → List Value) (k : Nat) (hk : ∀ i,(f i).length = k) : ∀ n,(marksOf f n).length = n * k
 | 0=>by simp [marksOf]
 | n + 1=>by rw [kP,List.length_append,vI f k hk n,hk,Nat.succ_mul]
theorem pE (f : Nat → List Value) (k : Nat) (hk : ∀ i,(f i).length = k) : ∀ (n i j : Nat),i < n → j < k → (marksOf f n)[i * k + j]? = (f i)[j]?
 | 0,i,j,h,_=>by omega
 | n + 1,i,j,h,hj=>by
  have hl:=vI f k hk n
  rw [kP]
  by_cases hi : i < n
  ·rw [List.getElem?_append_left (by rw [hl];calc i * k + j < i * k + k:=Nat.add_lt_add_left hj _
    _ = (i + 1) * k:=by rw [Nat.succ_mul]
    _ ≤ n * k:=Nat.mul_le_mul_right k hi)]
   exact pE f k hk n i j hi hj
  ·have : i = n:=by omega
   subst this
   rw [List.getElem?_append_right (by rw [hl];omega),hl]
   congr 1;omega
structure mL (w : World) (e k : Nat) (zs : List Value) (mk : Nat → List Value) (n i : Nat) (W : World) : Prop where
 own : W.ownsRow w.heap.size e k (.slice (some ⟨w.heap.size,0,none⟩) (n + i) (n + 12)) (n + i) (zs ++ marksOf mk i)
 bw : Below w.heap.size w W
theorem mL.moved {w W W' : World} {e k n i : Nat} {zs : List Value} {mk : Nat → List Value} (h : mL w e k zs mk n i W) (b : Below W.heap.size W W') : mL w e k zs mk n i W' :=
 ⟨mV h.own (b.block _ (h.own.lt _ rfl).2),aB h.bw b⟩
theorem mL.mark {w W W' : World} {e k n i : Nat} {zs : List Value} {mk : Nat → List Value} (b : Below w.heap.size w W) (hB : w.heap.size ≤ W.heap.size)
  (ho : W'.ownsRow w.heap.size e k (.slice (some ⟨w.heap.size,0,none⟩) (n + i + 1) (n + 12)) (n + i + 1) (zs ++ marksOf mk i ++ mk i)) (hg : W.grownBy W' (some w.heap.size)) : mL w e k zs mk n (i + 1) W' :=
 ⟨by rw [kP,← List.append_assoc];exact ho,b.trans (below_grown hg (fun x h=>by cases h;exact Nat.le_refl _) hB)⟩
theorem mL.lent {w W : World} {e k n : Nat} {zs : List Value} {mk : Nat → List Value} (h : mL w e k zs mk n 12 W) (hz : zs.length = n * k) (hm : n + 12 ≤ maxLen) : eI (hide (lo w) W) k zs (marksOf mk 12) n (.slice (some ⟨w.heap.size,0,none⟩) n (n + 12)):=by
 refine ⟨_,_,rfl,Nat.le_refl _,hm,hz,fun j u hu=>?_⟩
 have:=h.own.cells (g:=w.heap.size) rfl j u hu
 rw [show ((⟨w.heap.size,0,none⟩ : Addr).add j) = ⟨w.heap.size,j,none⟩ by simp [Addr.add];omega] at this
 rw [eZ (by simp [lo])]
 exact this
theorem lR {P : Program} (w : World) {ops : Array Oper} {rest : List Oper} {o : Oper} {a : Act} {Q : Exit → Act → World → Prop}
  (hg : o.guard = none) (s x : Operand) (t : TypeId) (hop : o.op = Op.call { callee:=Callee.builtin Builtin.append,args:=#[s,x],argTypes:=#[t,t] })
  (base : Nat) (e : TypeId) (i : TypeInfo) (size : Nat) (h1 : P.underlying t = some (.slice e)) (h2 : P.info? e = some i) (h4 : i.size = size)
  (g k cap : Nat) (xs : List Value) (hs : a.eval s = .slice (some ⟨g,0,none⟩) k cap) (hown : w.ownsRow base e size (.slice (some ⟨g,0,none⟩) k cap) k xs) (ao : Option Addr) (m c : Nat) (news : List Value) (hx : a.eval x = .slice ao m c) (hf : cR w size news m (.slice ao m c))
  (h1c : ∀ u ∈ news,u.oneCell' = true) (b1 : k + m ≤ cap)
  (hK : ∀ w',w'.ownsRow base e size (.slice (some ⟨g,0,none⟩) (k + m) cap) (k + m) (xs ++ news) → w.grownBy w' (some g) → wpList P ops Q rest (a.put o.dst (.slice (some ⟨g,0,none⟩) (k + m) cap)) w') :
  wpList P ops Q (o :: rest) a w:=by
 cases ao with
 | some ad=>exact wpList_append_fits w hg s x t hop base e i size h1 h2 h4 g k cap xs hs hown ad m c news hx hf.len.2.2.2 (hf.news ad rfl) h1c b1 hK
 | none =>
  obtain ⟨rfl,rfl⟩:=hf.none
  refine wpList_plain hg fun K hK'=>?_
  have hrun : (Builtin.append_ #[t,t] o.type #[.slice (some ⟨g,0,none⟩) k cap,.slice none 0 c]).run P w = .ok (.slice (some ⟨g,0,none⟩) k cap) w:=by
   rcases hown.2 with ⟨h,_⟩ | ⟨g',cap',cur,h,_,_,hnc,_⟩
   ·cases h
   ·simp only [Value.slice.injEq,Option.some.injEq,Addr.mk.injEq,and_true,true_and] at h
    obtain ⟨rfl,rfl⟩:=h
    simp [Builtin.append_,run_underlying h1,sizeOf,typeInfo,h2,Builtin.lenOf,Builtin.firstCells,hnc,storeCells]
  unfold Oper.wp
  simp [execOp,hop,resolve,invoke,builtin,hs,hx,hrun,Result.andThen]
  exact hK' _ _ (hK w (by simpa using hown) (World.grownBy.refl _ _))
theorem xV (i : Nat) (hi : i < 12) (w : World) : Calls Tryz.prog 136 #[.int .i64 1,.int .i64 i] w fun e w'=>e = .returned (.int .i64 (fL i)) ∧ w' = w:=by
 go_enter Tryz.func136,Tryz.ntmps136
 go_wp2_with fail
 go_ret
 exact ⟨by simp [fL],rfl⟩
open Go Go.RowKit Go.Sort Ly
set_option maxHeartbeats 1600000
def OkI (B : Nat) (W : World) (u : Value) : Prop :=
 ∃ a l c,u = .slice a l c ∧ l ≤ c ∧ (c = 0 ∨ ∃ (b off : Nat) (xs : Array Value),a = some ⟨b,off,none⟩ ∧ B ≤ b ∧ W.heap[b]? = some (Obj.cells xs 3 (0,0)) ∧ off + c ≤ xs.size ∧ kK l c)
theorem OkI.ovr {B : Nat} {S : Nat → Prop} {W W' : World} (h : Ovr B S W W') {u : Value} (k : OkI B W u) : OkI B W' u:=by
 obtain ⟨a,l,c,e,hl,k⟩:=k
 refine ⟨a,l,c,e,hl,k.elim .inl fun ⟨b,off,xs,h1,h2,h3,h4,h5⟩=>.inr ?_⟩
 obtain ⟨ys,e1,r⟩:=h.nums b xs h3
 exact ⟨b,off,ys,h1,h2,e1,by rw [r];exact h4,h5⟩
theorem Ovr.num {B : Nat} {S : Nat → Prop} {W : World} {b o : Nat} {xs : Array Value} {v : Value} (hb : B ≤ b) (h : W.heap[b]? = some (Obj.cells xs 3 (0,0))) : Ovr B S W (W.setCell ⟨b,o,none⟩ v):=by
 have ne : ∀ (b' : Nat),b' ≠ b → (W.setCell ⟨b,o,none⟩ v).heap[b']? = W.heap[b']?:=fun b' hh=>Below.heap_setCell _ _ _ _ hh
 have hs:=aC (o:=o) (u:=v) h
 have go : ∀ (b' : Nat) (ys : Array Value) (t : TypeId),t ≠ 3 → W.heap[b']? = some (Obj.cells ys t (0,0)) → (W.setCell ⟨b,o,none⟩ v).heap[b']? = some (Obj.cells ys t (0,0)):=fun b' ys t ht e=>by
  by_cases hh : b' = b
  ·subst hh;rw [h] at e;simp at e;exact absurd e.2.symm ht
  ·rw [ne b' hh];exact e
 refine ⟨rfl,rfl,rfl,by simp [World.setCell],fun b' _ _ hb'=>ne b' (fun e=>by subst e;rcases hb' with q | q;exact absurd q (Nat.not_lt.2 hb);exact q _ h),fun b' ys e=>⟨ys,go b' ys _ (by decide) e,cY.refl _ _ _⟩,fun b' ys e=>⟨ys,go b' ys _ (by decide) e,cY.refl _ _ _⟩,fun b' ys e=>⟨ys,go b' ys _ (by decide) e,cY.refl _ _ _⟩,fun b' ys e=>⟨ys,go b' ys _ (by decide) e,rfl,fun _ _=>.inl rfl⟩,fun b' ys e=>?_⟩
 by_cases hh : b' = b
 ·subst hh
  rw [h] at e
  obtain rfl : xs = ys:=by simpa using e
  exact ⟨_,hs,by simp⟩
 ·exact ⟨ys,by rw [ne b' hh];exact e,rfl⟩
theorem DS (i : Nat) (hi : i ≤ 1000000000000000) (w : World) : Calls Tryz.prog 136 #[.int .i64 2,.int .i64 i] w fun e w'=>∃ z : Int,e = .returned (.int .i64 z) ∧ w' = w:=by
 go_enter Tryz.func136,Tryz.ntmps136
 go_wp2_with fail
 go_ret
 exact ⟨_,rfl,rfl⟩
theorem lN {P : Program} {fn : Func} (h : fn.results = #[]) (tmps : Array Value) (w : World) : (results fn tmps).run P w = .ok (.tuple #[]) w:=by simp [results,h]
theorem overInts_c (B : Nat) (S : Nat → Prop) (w : World) (u : Value) (hB : ∀ b : Nat,S b → b < w.heap.size) (hu : OkI B w u) : Calls Tryz.prog 189 #[u] w fun e w'=>e = .returned (.tuple #[]) ∧ Ovr B S w w':=by
 obtain ⟨a,l,c,rfl,hl,hc⟩:=hu
 have hc6 : kK l c:=by
  rcases hc with rfl | ⟨b,off,xs,h1,h2,h3,h4,h5⟩
  ·exact ⟨by omega,by omega⟩
  ·exact h5
 obtain ⟨hl63,hc63⟩:=hc6
 have HC:=Hd hc
 obtain ⟨m,hm⟩ : ∃ m,m = min c (l + 12):=⟨_,rfl⟩
 have hm1 : m ≤ c:=by omega
 have hm2 : m ≤ l + 12:=by omega
 have hmin : min (c : Int) ((l : Int) + 12) = m:=by omega
 clear hc hm
 go_enter Tryz.func189,Tryz.ntmps189
 go_wp2_with fail
 go_loopw [3] (fun i wr=>∃ j : Nat,j ≤ m ∧ i = .int .i64 j ∧ Hid (Ovr B S w wr)) (fun i _=>m - (intOf i).toNat)
 case atStart=>exact ⟨0,Nat.zero_le _,rfl,Ovr.refl _ _ _⟩
 case round =>
  obtain ⟨j,hj,rfl,hs⟩:=hrel
  by_cases hlt : j < m
  ·obtain ⟨b,off,xs,rfl,h2,h3,h4,h5⟩:=HC.out.resolve_left (by omega)
   obtain ⟨ys,e1,r⟩:=hs.out.nums b xs h3
   have hy : off + j < ys.size:=by omega
   have c0 : wr.cell? ⟨b,off + j,none⟩ = some ys[off + j]:=(box_cell e1 (off + j)).trans (Array.getElem?_eq_getElem hy)
   have f0 : wr.frozen? ⟨b,off + j,none⟩ = false:=by simp [World.frozen?,e1]
   have E1:=Hd e1
   have H2:=Hd h2
   generalize ys[off + j] = v0 at c0
   clear h2 h3 h4 h5 e1 r hy
   go_wp2_with (go_at_call 136;refine (DS j (by omega) _).mono ?_;rintro e w3 ⟨z,rfl,rfl⟩)
   go_roundw
   case rel=>exact ⟨j + 1,by omega,by go_num,hs.out.trans (Ovr.num H2.out E1.out)⟩
   case measure=>simp [intOf];omega
  ·go_wp2_with fail
   exact bodyPost_end (lN rfl _ _) rfl ⟨rfl,hs.out⟩
open Go Go.RowKit Go.Sort Ly
set_option maxHeartbeats 1600000
theorem bytes_run (zs : List Int) (hz : ∀ z ∈ zs,0 ≤ z ∧ z < 256) (w : World) (n : Nat) (hn : n = zs.length) : (convert 43 9 (.slice (some ⟨w.heap.size,0,none⟩) n n)).run Tryz.prog (w.alloc (.cells (zs.map (Value.int .u8)).toArray 5)) = .ok (str (zs.map fun z=>UInt8.ofNat z.toNat)) (w.alloc (.cells (zs.map (Value.int .u8)).toArray 5)):=by
 subst hn
 have h:=run_convert_bytes_back (P:=Tryz.prog) (w.alloc (.cells (zs.map (Value.int .u8)).toArray 5)) 43 9 5 ⟨w.heap.size,0,none⟩ zs.length (zs.map fun z=>UInt8.ofNat z.toNat) Tryz.underlying43 Tryz.underlying5 Tryz.underlying9 (fun j hj=>by
  rw [List.length_map] at hj
  rw [show ((⟨w.heap.size,0,none⟩ : Addr).add j) = ⟨w.heap.size,j,none⟩ by simp [Addr.add];omega,box_cell (heap_alloc_new w _)]
  have hb:=hz zs[j] (List.getElem_mem hj)
  have e : (UInt8.ofNat zs[j].toNat).toNat = zs[j].toNat:=by
   simp;omega
  have e2 : ((zs[j].toNat : Nat) : Int) = zs[j]:=by omega
  simp only [List.getElem_map,e,e2]
  simp [hj])
 rw [List.length_map] at h
 exact h
theorem pD (i : Nat) (hi : i ≤ 1000000000000000) (w : World) : Calls Tryz.prog 182 #[.int .i64 2,.int .i64 i] w fun e w'=>∃ s,e = .returned (str s) ∧ Below w.heap.size w w':=by
 have hrun:=bytes_run [35,2,0,0,47,(i : Int) % 256,(i : Int) / 256 % 256,(i : Int) / 65536 % 256] (by
  intro z hz
  simp only [List.mem_cons,List.not_mem_nil,or_false] at hz
  rcases hz with rfl | rfl | rfl | rfl | rfl | rfl | rfl | rfl <;> omega) w 8 rfl
 simp only [List.map_cons,List.map_nil] at hrun
 obtain ⟨s,hs⟩ : ∃ s : Bs,[UInt8.ofNat (35 : Int).toNat,UInt8.ofNat (2 : Int).toNat,UInt8.ofNat (0 : Int).toNat,UInt8.ofNat (0 : Int).toNat,UInt8.ofNat (47 : Int).toNat,UInt8.ofNat ((i : Int) % 256).toNat,UInt8.ofNat ((i : Int) / 256 % 256).toNat,UInt8.ofNat ((i : Int) / 65536 % 256).toNat] = s:=⟨_,rfl⟩
 rw [hs] at hrun
 clear hs
 go_enter Tryz.func182,Tryz.ntmps182
 go_wp2_with fail
 go_ret
 exact ⟨s,rfl,bnew⟩
theorem markTerm2_c (i : Nat) (hi : i ≤ 1000000000000000) (w : World) : Calls Tryz.prog 206 #[.int .i64 2,.int .i64 i] w fun e w'=>∃ s,e = .returned (.agg #[.bool false,str s,.slice none 0 0]) ∧ Below w.heap.size w w':=by
 have HB : Hid (Below w.heap.size w (w.alloc (.cells #[.bool false,str [],.slice none 0 0] 95))):=bnew
 have HG:=Hd (heap_alloc_new w (.cells #[.bool false,str [],.slice none 0 0] 95))
 have R : Hid (∀ W,Calls Tryz.prog 182 #[.int .i64 2,.int .i64 i] W fun e w'=>∃ s,e = .returned (str s) ∧ Below W.heap.size W w'):=fun W=>pD i hi W
 go_enter Tryz.func206,Tryz.ntmps206
 go_wp2_with (go_at_call 182;refine (R.out _).mono ?_;rintro e w1 ⟨M,rfl,b1⟩;have B1:=Hd (aB HB.out b1);have G1:=Hd (kc b1 HG.out);clear b1;obtain ⟨c0,c1,c2,f0,f1,f2⟩:=vQ G1.out)
 have g1:=aC (o:=0) (u:=.bool false) G1.out
 have g2:=aC (o:=1) (u:=str M) g1
 have g3:=aC (o:=2) (u:=.slice none 0 0) g2
 refine bodyPost_ret (GC rfl _ _ w.heap.size _ _ _ (0,0) rfl g3) rfl ?_
 exact ⟨M,rfl,((B1.out.setCell (by simp) _).setCell (by simp) _).setCell (by simp) _⟩
theorem markForm2_c (i : Nat) (hi : i ≤ 1000000000000000) (w : World) : Calls Tryz.prog 207 #[.int .i64 2,.int .i64 i] w fun e w'=>∃ s,e = .returned (.agg #[.int .u8 0,str s,.slice none 0 0,.slice none 0 0]) ∧ Below w.heap.size w w':=by
 have HB : Hid (Below w.heap.size w (w.alloc (.cells #[.int .u8 0,str [],.slice none 0 0,.slice none 0 0] 25))):=bnew
 have HG:=Hd (heap_alloc_new w (.cells #[.int .u8 0,str [],.slice none 0 0,.slice none 0 0] 25))
 have R : Hid (∀ W,Calls Tryz.prog 182 #[.int .i64 2,.int .i64 i] W fun e w'=>∃ s,e = .returned (str s) ∧ Below W.heap.size W w'):=fun W=>pD i hi W
 go_enter Tryz.func207,Tryz.ntmps207
 go_wp2_with (go_at_call 182;refine (R.out _).mono ?_;rintro e w1 ⟨M,rfl,b1⟩;have B1:=Hd (aB HB.out b1);have G1:=Hd (kc b1 HG.out);clear b1;obtain ⟨c0,c1,c2,c3,f0,f1,f2,f3⟩:=iA G1.out)
 have g1:=aC (o:=0) (u:=.int .u8 0) G1.out
 have g2:=aC (o:=1) (u:=str M) g1
 have g3:=aC (o:=2) (u:=.slice none 0 0) g2
 have g4:=aC (o:=3) (u:=.slice none 0 0) g3
 refine bodyPost_ret (jF rfl _ _ w.heap.size _ _ _ _ (0,0) rfl g4) rfl ?_
 exact ⟨M,rfl,(((B1.out.setCell (by simp) _).setCell (by simp) _).setCell (by simp) _).setCell (by simp) _⟩
end Go.Proofs.YtcandidgaegghaaGreatDoor
