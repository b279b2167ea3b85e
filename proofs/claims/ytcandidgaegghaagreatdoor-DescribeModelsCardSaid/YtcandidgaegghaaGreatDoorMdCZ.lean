/- lyceumkit: the marks of facts, binds and functions; LentInts, LentFacts, LentBinds. Conditions: the list fits into memory. -/
import Derived.Test.YtcandidgaegghaaGreatDoorCpZ
import Derived.Test.YtcandidgaegghaaGreatDoorMdAZ
set_option maxRecDepth 10000
set_option linter.unusedSimpArgs false
set_option linter.unusedVariables false
namespace Go.Proofs.YtcandidgaegghaaGreatDoor
open Go Go.RowKit Ly
set_option maxHeartbeats 1600000
theorem info3m : (Tryz.prog.info? 3).map (fun i=>(i.zero,i.size,i.bytes)) = some (some (.int .i64 0),1,8):=by kernel_rfl
theorem info102m : (Tryz.prog.info? 102).map (fun i=>(i.zero,i.size,i.bytes)) = some (some (.agg #[.string ⟨#[]⟩,.int .i64 0,.int .i64 0]),3,32):=by kernel_rfl
theorem info123m : (Tryz.prog.info? 123).map (fun i=>(i.zero,i.size,i.bytes)) = some (some (.agg #[.string ⟨#[]⟩,.int .i64 0]),2,24):=by kernel_rfl
theorem info121m : (Tryz.prog.info? 121).map (fun i=>(i.zero,i.size,i.bytes)) = some (some (.agg #[.string ⟨#[]⟩,.int .i64 0,.slice none 0 0]),3,48):=by kernel_rfl
theorem rZ (w : World) (a : Value) {t : TypeId} : ∀ (j : Nat) (u : Value),[a][j]? = some u → (w.alloc (.cells #[a] t)).cell? ((⟨w.heap.size,0,none⟩ : Addr).add j) = some u:=by
 intro j u hu
 rw [show ((⟨w.heap.size,0,none⟩ : Addr).add j) = ⟨w.heap.size,j,none⟩ by simp [Addr.add];omega,aJ (heap_alloc_new w _)]
 rw [← hu];simp
theorem yH (w : World) (a b : Value) {t : TypeId} : ∀ (j : Nat) (u : Value),[a,b][j]? = some u → (w.alloc (.cells #[a,b] t)).cell? ((⟨w.heap.size,0,none⟩ : Addr).add j) = some u:=by
 intro j u hu
 rw [show ((⟨w.heap.size,0,none⟩ : Addr).add j) = ⟨w.heap.size,j,none⟩ by simp [Addr.add];omega,aJ (heap_alloc_new w _)]
 rw [← hu];simp
theorem u102 : ∃ fs,Tryz.prog.underlying 102 = some (.struct fs):=⟨_,Tryz.underlying102⟩
theorem i102 : (Tryz.prog.info? 102).map (·.size) = some 3:=by kernel_rfl
theorem res102 {fn : Func} {p : Tmp} (h : fn.results = #[.cell p 102]) (tmps : Array Value) (w : World) (g : Nat) (x0 x1 x2 : Value) (fr : Nat × Nat)
  (hp : tmps.getD p undef = one g) (hg : w.heap[g]? = some (.cells #[x0,x1,x2] 102 fr)) : (results fn tmps).run Tryz.prog w = .ok (.agg #[x0,x1,x2]) w:=by
 obtain ⟨fs,h1⟩:=u102
 exact results_cell_row h tmps w g 102 #[x0,x1,x2] fr _ hp hg h1 rfl i102
theorem row102 {w : World} {b : Nat} {x0 x1 x2 : Value} (h : w.heap[b]? = some (.cells #[x0,x1,x2] 102 (0,0))) :
  w.cell? ⟨b,0,none⟩ = some x0 ∧ w.cell? ⟨b,1,none⟩ = some x1 ∧ w.cell? ⟨b,2,none⟩ = some x2 ∧ w.frozen? ⟨b,0,none⟩ = false ∧ w.frozen? ⟨b,1,none⟩ = false ∧ w.frozen? ⟨b,2,none⟩ = false :=
 ⟨(aJ h 0).trans rfl,(aJ h 1).trans rfl,(aJ h 2).trans rfl,by simp [World.frozen?,h],by simp [World.frozen?,h],by simp [World.frozen?,h]⟩
theorem rU (i : Nat) (hi : i < 12) (w : World) : Calls Tryz.prog 137 #[.int .i64 1,.int .i64 i] w (Rt (.agg #[str (cX i),.int .i64 0,.int .i64 0]) w):=by
 have HB : Hid (Below w.heap.size w (w.alloc (.cells #[str [],.int .i64 0,.int .i64 0] 102))):=bnew
 have HG:=Hd (heap_alloc_new w (.cells #[str [],.int .i64 0,.int .i64 0] 102))
 have R : Hid (∀ W,Calls Tryz.prog 182 #[.int .i64 1,.int .i64 i] W (Rt (str (cX i)) W)):=fun W=>oF i hi W
 generalize cX i = M at R
 go_enter Tryz.func137,Tryz.ntmps137
 go_wp2_with (go_at_call 182;refine (R.out _).mono ?_;rintro e w1 ⟨rfl,b1⟩;have B1:=Hd (aA HB.out b1);have G1:=Hd (kc b1 HG.out);clear b1;obtain ⟨c0,c1,c2,f0,f1,f2⟩:=row102 G1.out)
 have g1:=aQ (o:=0) (u:=str M) G1.out
 have g2:=aQ (o:=1) (u:=.int .i64 0) g1
 have g3:=aQ (o:=2) (u:=.int .i64 0) g2
 refine bodyPost_ret (res102 rfl _ _ w.heap.size _ _ _ (0,0) rfl g3) rfl ?_
 exact ⟨rfl,(((B1.out.setCell (by simp) _).setCell (by simp) _).setCell (by simp) _)⟩
theorem u123 : ∃ fs,Tryz.prog.underlying 123 = some (.struct fs):=⟨_,Tryz.underlying123⟩
theorem i123 : (Tryz.prog.info? 123).map (·.size) = some 2:=by kernel_rfl
theorem res123 {fn : Func} {p : Tmp} (h : fn.results = #[.cell p 123]) (tmps : Array Value) (w : World) (g : Nat) (x0 x1 : Value) (fr : Nat × Nat)
  (hp : tmps.getD p undef = one g) (hg : w.heap[g]? = some (.cells #[x0,x1] 123 fr)) : (results fn tmps).run Tryz.prog w = .ok (.agg #[x0,x1]) w:=by
 obtain ⟨fs,h1⟩:=u123
 exact results_cell_row h tmps w g 123 #[x0,x1] fr _ hp hg h1 rfl i123
theorem row123 {w : World} {b : Nat} {x0 x1 : Value} (h : w.heap[b]? = some (.cells #[x0,x1] 123 (0,0))) :
  w.cell? ⟨b,0,none⟩ = some x0 ∧ w.cell? ⟨b,1,none⟩ = some x1 ∧ w.frozen? ⟨b,0,none⟩ = false ∧ w.frozen? ⟨b,1,none⟩ = false :=
 ⟨(aJ h 0).trans rfl,(aJ h 1).trans rfl,by simp [World.frozen?,h],by simp [World.frozen?,h]⟩
theorem rT (i : Nat) (hi : i < 12) (w : World) : Calls Tryz.prog 140 #[.int .i64 1,.int .i64 i] w (Rt (.agg #[str (cX i),.int .i64 0]) w):=by
 have HB : Hid (Below w.heap.size w (w.alloc (.cells #[str [],.int .i64 0] 123))):=bnew
 have HG:=Hd (heap_alloc_new w (.cells #[str [],.int .i64 0] 123))
 have R : Hid (∀ W,Calls Tryz.prog 182 #[.int .i64 1,.int .i64 i] W (Rt (str (cX i)) W)):=fun W=>oF i hi W
 generalize cX i = M at R
 go_enter Tryz.func140,Tryz.ntmps140
 go_wp2_with (go_at_call 182;refine (R.out _).mono ?_;rintro e w1 ⟨rfl,b1⟩;have B1:=Hd (aA HB.out b1);have G1:=Hd (kc b1 HG.out);clear b1;obtain ⟨c0,c1,f0,f1⟩:=row123 G1.out)
 have g1:=aQ (o:=0) (u:=str M) G1.out
 have g2:=aQ (o:=1) (u:=.int .i64 0) g1
 refine bodyPost_ret (res123 rfl _ _ w.heap.size _ _ (0,0) rfl g2) rfl ?_
 exact ⟨rfl,((B1.out.setCell (by simp) _).setCell (by simp) _)⟩
theorem u121 : ∃ fs,Tryz.prog.underlying 121 = some (.struct fs):=⟨_,Tryz.underlying121⟩
theorem i121 : (Tryz.prog.info? 121).map (·.size) = some 3:=by kernel_rfl
theorem zM {fn : Func} {p : Tmp} (h : fn.results = #[.cell p 121]) (tmps : Array Value) (w : World) (g : Nat) (x0 x1 x2 : Value) (fr : Nat × Nat)
  (hp : tmps.getD p undef = one g) (hg : w.heap[g]? = some (.cells #[x0,x1,x2] 121 fr)) : (results fn tmps).run Tryz.prog w = .ok (.agg #[x0,x1,x2]) w:=by
 obtain ⟨fs,h1⟩:=u121
 exact results_cell_row h tmps w g 121 #[x0,x1,x2] fr _ hp hg h1 rfl i121
theorem gZ {w : World} {b : Nat} {x0 x1 x2 : Value} (h : w.heap[b]? = some (.cells #[x0,x1,x2] 121 (0,0))) :
  w.cell? ⟨b,0,none⟩ = some x0 ∧ w.cell? ⟨b,1,none⟩ = some x1 ∧ w.cell? ⟨b,2,none⟩ = some x2 ∧ w.frozen? ⟨b,0,none⟩ = false ∧ w.frozen? ⟨b,1,none⟩ = false ∧ w.frozen? ⟨b,2,none⟩ = false :=
 ⟨(aJ h 0).trans rfl,(aJ h 1).trans rfl,(aJ h 2).trans rfl,by simp [World.frozen?,h],by simp [World.frozen?,h],by simp [World.frozen?,h]⟩
theorem rV (i : Nat) (hi : i < 12) (w : World) : Calls Tryz.prog 139 #[.int .i64 1,.int .i64 i] w (Rt (.agg #[str (cX i),.int .i64 0,.slice none 0 0]) w):=by
 have HB : Hid (Below w.heap.size w (w.alloc (.cells #[str [],.int .i64 0,.slice none 0 0] 121))):=bnew
 have HG:=Hd (heap_alloc_new w (.cells #[str [],.int .i64 0,.slice none 0 0] 121))
 have R : Hid (∀ W,Calls Tryz.prog 182 #[.int .i64 1,.int .i64 i] W (Rt (str (cX i)) W)):=fun W=>oF i hi W
 generalize cX i = M at R
 go_enter Tryz.func139,Tryz.ntmps139
 go_wp2_with (go_at_call 182;refine (R.out _).mono ?_;rintro e w1 ⟨rfl,b1⟩;have B1:=Hd (aA HB.out b1);have G1:=Hd (kc b1 HG.out);clear b1;obtain ⟨c0,c1,c2,f0,f1,f2⟩:=gZ G1.out)
 have g1:=aQ (o:=0) (u:=str M) G1.out
 have g2:=aQ (o:=1) (u:=.int .i64 0) g1
 have g3:=aQ (o:=2) (u:=.slice none 0 0) g2
 refine bodyPost_ret (zM rfl _ _ w.heap.size _ _ _ (0,0) rfl g3) rfl ?_
 exact ⟨rfl,(((B1.out.setCell (by simp) _).setCell (by simp) _).setCell (by simp) _)⟩
theorem rR (zs : List Value) (h1 : ∀ u ∈ zs,u.oneCell' = true) (n : Nat) (hn : n * 8 ≤ 140737488351232) (a : Option Addr) (m c : Nat) (w : World) (hx : aM w 1 zs n (.slice a m c)) :
  Calls Tryz.prog 61 #[.slice a m c] w fun e w'=>∃ b cap,e = .returned (.slice (some ⟨b,0,none⟩) m cap) ∧ cQ (hide (lo w) w') 1 zs (marksOf kO 12) m (.slice (some ⟨b,0,none⟩) m cap) ∧ Below w.heap.size w w':=by
 obtain rfl : m = n:=hx.len.1
 have hzl:=hx.len.2.2.2
 have hml : m ≤ 9223372036854775000:=by omega
 obtain ⟨i0,hi0,hz0,hs0,hb0⟩:=info_parts info3m
 have HX:=Hd hx
 have H1:=Hd h1
 have HZ:=Hd hzl
 clear hx h1 hzl
 go_enter Tryz.func61,Tryz.ntmps61
 go_upto_region 3 with (first
  | (at_make;refine wpList_make_own _ rfl _ _ 29 rfl w.heap.size 3 i0 (.int .i64 0) 1 Tryz.underlying29 hi0 hz0 hs0 _ _ _ (m + 12) rfl rfl (by first | rfl | omega) (by rw [hb0];omega) (by unfold maxLen;omega) (Nat.le_refl _) ?_;intro w1 hown1 hgrow1;have HO1:=Hd hown1;have B1:=Hd (below_grown hgrow1 (fun _ e=>by cases e) (Nat.le_refl _));clear hown1 hgrow1)
  | (at_builtin;refine hH _ rfl _ _ 29 rfl w.heap.size 3 i0 1 Tryz.underlying29 hi0 hs0 w.heap.size 0 (m + 12) _ rfl HO1.out a m c zs rfl (HX.out.keep (aC B1.out)) H1.out (by omega) ?_;intro w2 hown2 hgrow2;have HO2:=Hd hown2;have B2:=Hd (B1.out.trans (below_grown hgrow2 (fun x e=>by cases e;exact Nat.le_refl _) B1.out.size));clear hown2 hgrow2))
 have LR : Hid (jJ w 3 1 zs kO m 0 w2):=⟨by have:=HO2.out;simpa [marksOf] using this,B2.out⟩
 clear HO1 HO2 HX
 go_wp2_with fail
 go_loopw [3,4] (fun u i wr=>∃ p : Nat,p ≤ 12 ∧ i = .int .i64 p ∧ u = .slice (some ⟨w.heap.size,0,none⟩) (m + p) (m + 12) ∧ Hid (jJ w 3 1 zs kO m p wr)) (fun _ i _=>12 - (intOf i).toNat)
 case atStart=>exact ⟨0,by omega,rfl,by first | rfl | simp,LR.out⟩
 case round =>
  clear LR
  obtain ⟨p,hp,rfl,rfl,hs⟩:=hrel
  by_cases hlt : p < 12
  ·go_wp2_with (first
    | (go_at_call 136;refine (zF p hlt _).mono ?_;rintro e w3 ⟨rfl,rfl⟩;have OW:=Hd hs.out.own;have B3 : Hid (Below w3.heap.size w3 w3):=Below.refl _ _)
    | (at_builtin;refine wpList_append_fits _ rfl _ _ 29 rfl w.heap.size 3 i0 1 Tryz.underlying29 hi0 hs0 w.heap.size (m + p) (m + 12) _ rfl (OW.out.alloc _) ⟨w3.heap.size,0,none⟩ 1 1 [.int .i64 (qR p)] rfl rfl (rZ _ _) (by simp [Value.oneCell']) (by omega) ?_;intro w4 hown4 hgrow4))
   go_roundw
   case rel =>
    refine ⟨p + 1,by omega,by go_num,rfl, ?_⟩
    have bA : ∀ o,Below w3.heap.size w3 (w3.alloc o):=fun o=>bnew
    exact jJ.mark (aA (aA hs.out.bw B3.out) (bA _)) (Nat.le_trans hs.out.bw.size (Nat.le_trans B3.out.size (by simp))) hown4 hgrow4
   case measure=>simp [intOf];omega
  ·obtain rfl : p = 12:=by omega
   have LE:=Hd (hs.out.lent HZ.out (by unfold maxLen;omega))
   have LB:=Hd hs.out.bw
   clear hs
   go_wp2_with fail
   go_ret
   exact ⟨_,_,rfl,LE.out,LB.out⟩
theorem lentFacts_c (zs : List Value) (h1 : ∀ u ∈ zs,u.oneCell' = true) (n : Nat) (hn : n * 32 ≤ 140737488351232) (a : Option Addr) (m c : Nat) (w : World) (hx : aM w 3 zs n (.slice a m c)) :
  Calls Tryz.prog 62 #[.slice a m c] w fun e w'=>∃ b cap,e = .returned (.slice (some ⟨b,0,none⟩) m cap) ∧ cQ (hide (lo w) w') 3 zs (marksOf pU 12) m (.slice (some ⟨b,0,none⟩) m cap) ∧ Below w.heap.size w w':=by
 obtain rfl : m = n:=hx.len.1
 have hzl:=hx.len.2.2.2
 have hml : m ≤ 9223372036854775000:=by omega
 obtain ⟨i0,hi0,hz0,hs0,hb0⟩:=info_parts info102m
 have HX:=Hd hx
 have H1:=Hd h1
 have HZ:=Hd hzl
 clear hx h1 hzl
 go_enter Tryz.func62,Tryz.ntmps62
 go_upto_region 3 with (first
  | (at_make;refine wpList_make_own _ rfl _ _ 30 rfl w.heap.size 102 i0 (.agg #[.string ⟨#[]⟩,.int .i64 0,.int .i64 0]) 3 Tryz.underlying30 hi0 hz0 hs0 _ _ _ (m + 12) rfl rfl (by first | rfl | omega) (by rw [hb0];omega) (by unfold maxLen;omega) (Nat.le_refl _) ?_;intro w1 hown1 hgrow1;have HO1:=Hd hown1;have B1:=Hd (below_grown hgrow1 (fun _ e=>by cases e) (Nat.le_refl _));clear hown1 hgrow1)
  | (at_builtin;refine hH _ rfl _ _ 30 rfl w.heap.size 102 i0 3 Tryz.underlying30 hi0 hs0 w.heap.size 0 (m + 12) _ rfl HO1.out a m c zs rfl (HX.out.keep (aC B1.out)) H1.out (by omega) ?_;intro w2 hown2 hgrow2;have HO2:=Hd hown2;have B2:=Hd (B1.out.trans (below_grown hgrow2 (fun x e=>by cases e;exact Nat.le_refl _) B1.out.size));clear hown2 hgrow2))
 have LR : Hid (jJ w 102 3 zs pU m 0 w2):=⟨by have:=HO2.out;simpa [marksOf] using this,B2.out⟩
 clear HO1 HO2 HX
 go_wp2_with fail
 go_loopw [3,4] (fun u i wr=>∃ p : Nat,p ≤ 12 ∧ i = .int .i64 p ∧ u = .slice (some ⟨w.heap.size,0,none⟩) (m + p) (m + 12) ∧ Hid (jJ w 102 3 zs pU m p wr)) (fun _ i _=>12 - (intOf i).toNat)
 case atStart=>exact ⟨0,by omega,rfl,by first | rfl | simp,LR.out⟩
 case round =>
  clear LR
  obtain ⟨p,hp,rfl,rfl,hs⟩:=hrel
  by_cases hlt : p < 12
  ·go_wp2_with (first
    | (go_at_call 137;refine (rU p hlt _).mono ?_;rintro e w3 ⟨rfl,b3⟩;have OW:=Hd (hs.out.moved b3).own;have B3:=Hd b3;clear b3)
    | (at_builtin;refine wpList_append_fits _ rfl _ _ 30 rfl w.heap.size 102 i0 3 Tryz.underlying30 hi0 hs0 w.heap.size (m + p) (m + 12) _ rfl (OW.out.alloc _) ⟨w3.heap.size,0,none⟩ 1 1 [str (cX p),.int .i64 0,.int .i64 0] rfl rfl (wQ _ _ _ _ _) (by simp [Value.oneCell']) (by omega) ?_;intro w4 hown4 hgrow4))
   go_roundw
   case rel =>
    refine ⟨p + 1,by omega,by go_num,rfl, ?_⟩
    have bA : ∀ o,Below w3.heap.size w3 (w3.alloc o):=fun o=>bnew
    exact jJ.mark (aA (aA hs.out.bw B3.out) (bA _)) (Nat.le_trans hs.out.bw.size (Nat.le_trans B3.out.size (by simp))) hown4 hgrow4
   case measure=>simp [intOf];omega
  ·obtain rfl : p = 12:=by omega
   have LE:=Hd (hs.out.lent HZ.out (by unfold maxLen;omega))
   have LB:=Hd hs.out.bw
   clear hs
   go_wp2_with fail
   go_ret
   exact ⟨_,_,rfl,LE.out,LB.out⟩
theorem lentBinds_c (zs : List Value) (h1 : ∀ u ∈ zs,u.oneCell' = true) (n : Nat) (hn : n * 24 ≤ 140737488351232) (a : Option Addr) (m c : Nat) (w : World) (hx : aM w 2 zs n (.slice a m c)) :
  Calls Tryz.prog 64 #[.slice a m c] w fun e w'=>∃ b cap,e = .returned (.slice (some ⟨b,0,none⟩) m cap) ∧ cQ (hide (lo w) w') 2 zs (marksOf pR 12) m (.slice (some ⟨b,0,none⟩) m cap) ∧ Below w.heap.size w w':=by
 obtain rfl : m = n:=hx.len.1
 have hzl:=hx.len.2.2.2
 have hml : m ≤ 9223372036854775000:=by omega
 obtain ⟨i0,hi0,hz0,hs0,hb0⟩:=info_parts info123m
 have HX:=Hd hx
 have H1:=Hd h1
 have HZ:=Hd hzl
 clear hx h1 hzl
 go_enter Tryz.func64,Tryz.ntmps64
 go_upto_region 3 with (first
  | (at_make;refine wpList_make_own _ rfl _ _ 32 rfl w.heap.size 123 i0 (.agg #[.string ⟨#[]⟩,.int .i64 0]) 2 Tryz.underlying32 hi0 hz0 hs0 _ _ _ (m + 12) rfl rfl (by first | rfl | omega) (by rw [hb0];omega) (by unfold maxLen;omega) (Nat.le_refl _) ?_;intro w1 hown1 hgrow1;have HO1:=Hd hown1;have B1:=Hd (below_grown hgrow1 (fun _ e=>by cases e) (Nat.le_refl _));clear hown1 hgrow1)
  | (at_builtin;refine hH _ rfl _ _ 32 rfl w.heap.size 123 i0 2 Tryz.underlying32 hi0 hs0 w.heap.size 0 (m + 12) _ rfl HO1.out a m c zs rfl (HX.out.keep (aC B1.out)) H1.out (by omega) ?_;intro w2 hown2 hgrow2;have HO2:=Hd hown2;have B2:=Hd (B1.out.trans (below_grown hgrow2 (fun x e=>by cases e;exact Nat.le_refl _) B1.out.size));clear hown2 hgrow2))
 have LR : Hid (jJ w 123 2 zs pR m 0 w2):=⟨by have:=HO2.out;simpa [marksOf] using this,B2.out⟩
 clear HO1 HO2 HX
 go_wp2_with fail
 go_loopw [3,4] (fun u i wr=>∃ p : Nat,p ≤ 12 ∧ i = .int .i64 p ∧ u = .slice (some ⟨w.heap.size,0,none⟩) (m + p) (m + 12) ∧ Hid (jJ w 123 2 zs pR m p wr)) (fun _ i _=>12 - (intOf i).toNat)
 case atStart=>exact ⟨0,by omega,rfl,by first | rfl | simp,LR.out⟩
 case round =>
  clear LR
  obtain ⟨p,hp,rfl,rfl,hs⟩:=hrel
  by_cases hlt : p < 12
  ·go_wp2_with (first
    | (go_at_call 140;refine (rT p hlt _).mono ?_;rintro e w3 ⟨rfl,b3⟩;have OW:=Hd (hs.out.moved b3).own;have B3:=Hd b3;clear b3)
    | (at_builtin;refine wpList_append_fits _ rfl _ _ 32 rfl w.heap.size 123 i0 2 Tryz.underlying32 hi0 hs0 w.heap.size (m + p) (m + 12) _ rfl (OW.out.alloc _) ⟨w3.heap.size,0,none⟩ 1 1 [str (cX p),.int .i64 0] rfl rfl (yH _ _ _) (by simp [Value.oneCell']) (by omega) ?_;intro w4 hown4 hgrow4))
   go_roundw
   case rel =>
    refine ⟨p + 1,by omega,by go_num,rfl, ?_⟩
    have bA : ∀ o,Below w3.heap.size w3 (w3.alloc o):=fun o=>bnew
    exact jJ.mark (aA (aA hs.out.bw B3.out) (bA _)) (Nat.le_trans hs.out.bw.size (Nat.le_trans B3.out.size (by simp))) hown4 hgrow4
   case measure=>simp [intOf];omega
  ·obtain rfl : p = 12:=by omega
   have LE:=Hd (hs.out.lent HZ.out (by unfold maxLen;omega))
   have LB:=Hd hs.out.bw
   clear hs
   go_wp2_with fail
   go_ret
   exact ⟨_,_,rfl,LE.out,LB.out⟩
end Go.Proofs.YtcandidgaegghaaGreatDoor
namespace Ly
structure Fa where
 name : Bs
 args : Int
 tru : Int
structure Fu where
 name : Bs
 args : Int
 value : List Int
structure Bi where
 name : Bs
 at_ : Int
structure Md where
 kind : Int
 size : Int
 rel : List Int
 loop : Int
 facts : List Fa
 funcs : List Fu
 binds : List Bi
end Ly
namespace Go.Proofs.YtcandidgaegghaaGreatDoor
open Go Go.RowKit Ly
set_option maxHeartbeats 1600000
def inV (l : List Int) : List Value:=l.map (Value.int .i64)
def faV (f : Fa) : List Value:=[str f.name,.int .i64 f.args,.int .i64 f.tru]
def biV (f : Bi) : List Value:=[str f.name,.int .i64 f.at_]
def fasV (l : List Fa) : List Value:=l.flatMap faV
def bisV (l : List Bi) : List Value:=l.flatMap biV
theorem yA (l : List Int) : ∀ u ∈ inV l,u.oneCell' = true:=by
 intro u hu
 obtain ⟨x,_,rfl⟩:=List.mem_map.1 hu
 rfl
theorem fasV_one (l : List Fa) : ∀ u ∈ fasV l,u.oneCell' = true:=by
 intro u hu
 obtain ⟨x,_,h⟩:=List.mem_flatMap.1 hu
 simp only [faV,List.mem_cons,List.not_mem_nil,or_false] at h
 rcases h with rfl | rfl | rfl <;> rfl
theorem bisV_one (l : List Bi) : ∀ u ∈ bisV l,u.oneCell' = true:=by
 intro u hu
 obtain ⟨x,_,h⟩:=List.mem_flatMap.1 hu
 simp only [biV,List.mem_cons,List.not_mem_nil,or_false] at h
 rcases h with rfl | rfl <;> rfl
theorem xX {l : List Fa} {j : Nat} {f : Fa} (h : l[j]? = some f) : (fasV l)[j * 3]? = some (str f.name) ∧ (fasV l)[j * 3 + 1]? = some (.int .i64 f.args) ∧ (fasV l)[j * 3 + 2]? = some (.int .i64 f.tru):=by
 induction l generalizing j with
 | nil=>simp at h
 | cons x l ih =>
  cases j with
  | zero=>simp at h;subst h;exact ⟨rfl,rfl,rfl⟩
  | succ j =>
   have:=ih (j:=j) (by simpa using h)
   have e : fasV (x :: l) = faV x ++ fasV l:=by simp [fasV]
   have hl : (faV x).length = 3:=rfl
   rw [e,List.getElem?_append_right (by omega),List.getElem?_append_right (by omega),List.getElem?_append_right (by omega),hl,show (j + 1) * 3 - 3 = j * 3 by omega,show (j + 1) * 3 + 1 - 3 = j * 3 + 1 by omega,show (j + 1) * 3 + 2 - 3 = j * 3 + 2 by omega]
   exact this
theorem xS {l : List Bi} {j : Nat} {f : Bi} (h : l[j]? = some f) : (bisV l)[j * 2]? = some (str f.name) ∧ (bisV l)[j * 2 + 1]? = some (.int .i64 f.at_):=by
 induction l generalizing j with
 | nil=>simp at h
 | cons x l ih =>
  cases j with
  | zero=>simp at h;subst h;exact ⟨rfl,rfl⟩
  | succ j =>
   have:=ih (j:=j) (by simpa using h)
   have e : bisV (x :: l) = biV x ++ bisV l:=by simp [bisV]
   have hl : (biV x).length = 2:=rfl
   rw [e,List.getElem?_append_right (by omega),List.getElem?_append_right (by omega),hl,show (j + 1) * 2 - 2 = j * 2 by omega,show (j + 1) * 2 + 1 - 2 = j * 2 + 1 by omega]
   exact this
def fZ (w : World) (l : List Fu) (u : Value) : Prop :=
 ∃ a cap,u = .slice a l.length cap ∧ l.length ≤ cap ∧ cap ≤ maxLen ∧ (l = [] ∨ ∃ b off,a = some ⟨b,off,none⟩ ∧ ∀ j f,l[j]? = some f → ∃ v,w.cell? ⟨b,off + j * 3,none⟩ = some (str f.name) ∧ w.cell? ⟨b,off + j * 3 + 1,none⟩ = some (.int .i64 f.args) ∧ w.cell? ⟨b,off + j * 3 + 2,none⟩ = some v ∧ aM w 1 (inV f.value) f.value.length v)
theorem fZ.keep {w w' : World} {l : List Fu} {u : Value} (h : fZ w l u) (K : bI w w') : fZ w' l u:=by
 obtain ⟨a,cap,h1,h2,h3,h5⟩:=h
 refine ⟨a,cap,h1,h2,h3,h5.elim .inl fun h=>.inr ?_⟩
 obtain ⟨b,off,e,hc⟩:=h
 refine ⟨b,off,e,fun j f hf=>?_⟩
 obtain ⟨v,c0,c1,c2,hv⟩:=hc j f hf
 exact ⟨v,K _ _ c0,K _ _ c1,K _ _ c2,hv.keep K⟩
theorem fZ.len {w : World} {l : List Fu} {a : Option Addr} {n c : Nat} (h : fZ w l (.slice a n c)) : n = l.length ∧ n ≤ c ∧ c ≤ maxLen:=by
 obtain ⟨a',cap,e,h1,h2,_⟩:=h
 simp only [Value.slice.injEq] at e
 obtain ⟨_,rfl,rfl⟩:=e
 exact ⟨rfl,h1,h2⟩
theorem fZ.get {w : World} {l : List Fu} {a : Option Addr} {n c : Nat} (h : fZ w l (.slice a n c)) (hn : l ≠ []) : ∃ b off,a = some ⟨b,off,none⟩ ∧ ∀ j f,l[j]? = some f → ∃ x k e,w.cell? ⟨b,off + j * 3,none⟩ = some (str f.name) ∧ w.cell? ⟨b,off + j * 3 + 1,none⟩ = some (.int .i64 f.args) ∧ w.cell? ⟨b,off + j * 3 + 2,none⟩ = some (.slice x k e) ∧ aM w 1 (inV f.value) f.value.length (.slice x k e):=by
 obtain ⟨a',cap,e,_,_,h5⟩:=h
 simp only [Value.slice.injEq] at e
 obtain ⟨rfl,-,-⟩:=e
 obtain ⟨b,off,rfl,hc⟩:=h5.resolve_left hn
 refine ⟨b,off,rfl,fun j f hf=>?_⟩
 obtain ⟨v,c0,c1,c2,hv⟩:=hc j f hf
 obtain ⟨x,e,rfl⟩:=hv.slice
 exact ⟨_,_,_,c0,c1,c2,hv⟩
def FuL (W : World) (f : Fu) (cs : List Value) : Prop:=∃ v,cs = [str f.name,.int .i64 f.args,v] ∧ cQ W 1 (inV f.value) (marksOf kO 12) f.value.length v
def FusC (W : World) : List Fu → List Value → Prop
 | [],ys=>ys = []
 | t :: ts,ys=>∃ c r,ys = c ++ r ∧ FuL W t c ∧ FusC W ts r
def iX (W : World) (l : List Fu) (u : Value) : Prop:=∃ (b cap : Nat) (zs : List Value),u = .slice (some ⟨b,0,none⟩) l.length cap ∧ l.length + 12 ≤ cap ∧ cap ≤ maxLen ∧ nR W b (zs ++ marksOf vF 12) ∧ FusC W l zs
theorem FuL.keep {W W' : World} (k : bI W W') (t : Fu) (cs : List Value) (h : FuL W t cs) : FuL W' t cs:=by
 obtain ⟨v,h1,h2⟩:=h
 exact ⟨v,h1,h2.keep k⟩
theorem FusC.keep {W W' : World} (k : bI W W') : ∀ (l : List Fu) (ys : List Value),FusC W l ys → FusC W' l ys
 | [],ys,h=>h
 | t :: ts,ys,⟨c,r,e,h1,h2⟩=>⟨c,r,e,FuL.keep k t c h1,FusC.keep k ts r h2⟩
theorem iX.keep {W W' : World} {l : List Fu} {u : Value} (h : iX W l u) (k : bI W W') : iX W' l u:=by
 obtain ⟨b,cap,zs,h1,h2,h3,h4,h5⟩:=h
 exact ⟨b,cap,zs,h1,h2,h3,h4.keep k,FusC.keep k l zs h5⟩
theorem FuL.len {W : World} {t : Fu} {cs : List Value} (h : FuL W t cs) : cs.length = 3:=by obtain ⟨u,rfl,_⟩:=h;rfl
theorem FusC.len {W : World} : ∀ {l : List Fu} {ys : List Value},FusC W l ys → ys.length = l.length * 3
 | [],ys,h=>by cases h;rfl
 | t :: ts,ys,⟨c,r,e,h1,h2⟩=>by
  subst e
  simp only [List.length_append,h1.len,FusC.len h2,List.length_cons];omega
theorem FusC.put {W : World} : ∀ {l : List Fu} {ys : List Value} {t : Fu} {c : List Value},FusC W l ys → FuL W t c → FusC W (l ++ [t]) (ys ++ c)
 | [],ys,t,c,h,h'=>by cases h;exact ⟨c,[],by simp,h',rfl⟩
 | x :: l,ys,t,c,⟨d,r,e,h1,h2⟩,h'=>by
  subst e
  exact ⟨d,r ++ c,by simp,h1,FusC.put h2 h'⟩
theorem FusC.get {W : World} : ∀ {l : List Fu} {ys : List Value} {j : Nat} {t : Fu},FusC W l ys → l[j]? = some t → ∃ u,ys[j * 3]? = some (str t.name) ∧ ys[j * 3 + 1]? = some (.int .i64 t.args) ∧ ys[j * 3 + 2]? = some u ∧ cQ W 1 (inV t.value) (marksOf kO 12) t.value.length u
 | [],ys,j,t,h,e=>by simp at e
 | x :: l,ys,0,t,⟨d,r,e',h1,h2⟩,e=>by
  subst e'
  simp at e;subst e
  obtain ⟨u,rfl,h3⟩:=h1
  exact ⟨u,rfl,rfl,rfl,h3⟩
 | x :: l,ys,j + 1,t,⟨d,r,e',h1,h2⟩,e=>by
  subst e'
  obtain ⟨u,e0,e1,e2,h3⟩:=FusC.get (j:=j) h2 (by simpa using e)
  have hd:=h1.len
  refine ⟨u, ?_, ?_, ?_,h3⟩
  ·rw [List.getElem?_append_right (by omega),hd,show (j + 1) * 3 - 3 = j * 3 by omega];exact e0
  ·rw [List.getElem?_append_right (by omega),hd,show (j + 1) * 3 + 1 - 3 = j * 3 + 1 by omega];exact e1
  ·rw [List.getElem?_append_right (by omega),hd,show (j + 1) * 3 + 2 - 3 = j * 3 + 2 by omega];exact e2
theorem iX.at {W : World} {l : List Fu} {u : Value} (h : iX W l u) : fZ W l u:=by
 obtain ⟨b,cap,zs,rfl,h2,h3,h4,h5⟩:=h
 refine ⟨_,_,rfl,by omega,h3,.inr ⟨b,0,rfl,fun j f hf=>?_⟩⟩
 obtain ⟨v,e0,e1,e2,hv⟩:=FusC.get h5 hf
 rw [Nat.zero_add]
 exact ⟨v,h4.left _ _ e0,h4.left _ _ e1,h4.left _ _ e2,hv.flat⟩
structure iO (w : World) (l : List Fu) (g k j i : Nat) (W : World) : Prop where
 own : ∃ xs,W.ownsRow g 121 3 (.slice (some ⟨g,0,none⟩) (j + i) (k + 12)) (j + i) (xs ++ marksOf vF i) ∧ FusC (hide (fun n=>decide (n < g + 1)) W) (l.take j) xs
 bw : Below w.heap.size w W
 lt : g < W.heap.size
 ge : w.heap.size ≤ g
theorem iO.moved {w : World} {l : List Fu} {g k j i : Nat} {W W' : World} (h : iO w l g k j i W) (b : Below W.heap.size W W') : iO w l g k j i W':=by
 obtain ⟨⟨xs,h1,h2⟩,h3,h4,h5⟩:=h
 exact ⟨⟨xs,uG h1 (b.block g h4),FusC.keep (kB fun k h _=>b.block k h) _ _ h2⟩,aA h3 b,Nat.lt_of_lt_of_le h4 b.size,h5⟩
theorem iO.put {w : World} {l : List Fu} {g k j : Nat} {W W' : World} {T : Fu} {c xs : List Value} (h2 : FusC (hide (fun n=>decide (n < g + 1)) W) (l.take j) xs) (h3 : Below w.heap.size w W) (h4 : g < W.heap.size) (h5 : w.heap.size ≤ g) (hT : l[j]? = some T) (hc : FuL (hide (fun n=>decide (n < g + 1)) W) T c)
  (ho : W'.ownsRow g 121 3 (.slice (some ⟨g,0,none⟩) (j + 1) (k + 12)) (j + 1) (xs ++ c)) (hg : W.grownBy W' (some g)) : iO w l g k (j + 1) 0 W':=by
 have K : bI (hide (fun n=>decide (n < g + 1)) W) (hide (fun n=>decide (n < g + 1)) W'):=kB fun k h h'=>hg.block k h (by simp;omega)
 refine ⟨⟨xs ++ c,by simpa [marksOf] using ho, ?_⟩,h3.trans (below_grown hg (fun x e=>by cases e;exact h5) (Nat.le_trans h5 (Nat.le_of_lt h4))),Nat.lt_of_lt_of_le h4 hg.size,h5⟩
 have e : l.take (j + 1) = l.take j ++ [T]:=by rw [List.take_add_one,hT];rfl
 rw [e]
 exact FusC.put (FusC.keep K _ _ h2) (FuL.keep K _ _ hc)
theorem iO.mark {w : World} {l : List Fu} {g k i : Nat} {W W' : World} {xs : List Value} (h2 : FusC (hide (fun n=>decide (n < g + 1)) W) (l.take k) xs) (h3 : Below w.heap.size w W) (h4 : g < W.heap.size) (h5 : w.heap.size ≤ g)
  (ho : W'.ownsRow g 121 3 (.slice (some ⟨g,0,none⟩) (k + i + 1) (k + 12)) (k + i + 1) (xs ++ marksOf vF i ++ vF i)) (hg : W.grownBy W' (some g)) : iO w l g k k (i + 1) W':=by
 have K : bI (hide (fun n=>decide (n < g + 1)) W) (hide (fun n=>decide (n < g + 1)) W'):=kB fun k h h'=>hg.block k h (by simp;omega)
 refine ⟨⟨xs, ?_,FusC.keep K _ _ h2⟩,h3.trans (below_grown hg (fun x e=>by cases e;exact h5) (Nat.le_trans h5 (Nat.le_of_lt h4))),Nat.lt_of_lt_of_le h4 hg.size,h5⟩
 rw [jN,← List.append_assoc]
 exact ho
theorem iO.lent {w : World} {l : List Fu} {g k : Nat} {W : World} (h : iO w l g k k 12 W) (hk : k = l.length) (hm : k + 12 ≤ maxLen) : iX (hide (lo w) W) l (.slice (some ⟨g,0,none⟩) k (k + 12)):=by
 obtain ⟨⟨xs,h1,h2⟩,h3,h4,h5⟩:=h
 rw [List.take_of_length_le (by omega)] at h2
 subst hk
 refine ⟨g,_,xs,rfl,Nat.le_refl _,hm, ?_, ?_⟩
 ·intro j u hu
  have:=h1.cells (g:=g) rfl j u hu
  rw [show ((⟨g,0,none⟩ : Addr).add j) = ⟨g,j,none⟩ by simp [Addr.add];omega] at this
  rw [iB (by simp [lo];omega)]
  exact this
 ·exact FusC.keep (bP fun k h6 h7=>⟨by simp at h7;simp [lo];omega,rfl⟩) _ _ h2
theorem iO.new {w w1 : World} {l : List Fu} {k : Nat} (h : w1.ownsRow w.heap.size 121 3 (.slice (some ⟨w.heap.size,0,none⟩) 0 (k + 12)) 0 []) (hg : w.grownBy w1 none) : iO w l w.heap.size k 0 0 w1 :=
 ⟨⟨[],by simpa [marksOf] using h,by rw [List.take_zero];rfl⟩,below_grown hg (fun _ e=>by cases e) (Nat.le_refl _),(h.lt _ rfl).2,Nat.le_refl _⟩
theorem iO.first {w W : World} {l : List Fu} {g k j : Nat} (h : iO w l g k j 0 W) : ∃ xs,W.ownsRow g 121 3 (.slice (some ⟨g,0,none⟩) j (k + 12)) j xs ∧ FusC (hide (fun n=>decide (n < g + 1)) W) (l.take j) xs:=by
 obtain ⟨xs,h1,h2⟩:=h.own
 exact ⟨xs,by simpa [marksOf] using h1,h2⟩
theorem lentFunc_c (t : Fu) (a : Option Addr) (k c : Nat) (w : World) (hx : aM w 1 (inV t.value) t.value.length (.slice a k c)) (hn : t.value.length * 8 ≤ 140737488351232) :
  Calls Tryz.prog 138 #[.agg #[str t.name,.int .i64 t.args,.slice a k c]] w fun e w'=>∃ b n cap,e = .returned (.agg #[str t.name,.int .i64 t.args,.slice (some ⟨b,0,none⟩) n cap]) ∧ cQ (hide (lo w) w') 1 (inV t.value) (marksOf kO 12) t.value.length (.slice (some ⟨b,0,none⟩) n cap) ∧ Below w.heap.size w w':=by
 have K2:=gY w (.cells #[str t.name,.int .i64 t.args,.slice a k c] 121) (.cells #[str [],.int .i64 0,.slice none 0 0] 121)
 have R:=Hd (rR (inV t.value) (yA _) t.value.length hn a k c ((w.alloc (.cells #[str t.name,.int .i64 t.args,.slice a k c] 121)).alloc (.cells #[str [],.int .i64 0,.slice none 0 0] 121)) (hx.keep K2))
 have KL : Hid (k = t.value.length):=hx.len.1
 have G0 : Hid (((w.alloc (.cells #[str t.name,.int .i64 t.args,.slice a k c] 121)).alloc (.cells #[str [],.int .i64 0,.slice none 0 0] 121)).heap[w.heap.size]? = some (.cells #[str t.name,.int .i64 t.args,.slice a k c] 121 (0,0))):=kc bnew (heap_alloc_new w _)
 have G1 : Hid (((w.alloc (.cells #[str t.name,.int .i64 t.args,.slice a k c] 121)).alloc (.cells #[str [],.int .i64 0,.slice none 0 0] 121)).heap[w.heap.size + 1]? = some (.cells #[str [],.int .i64 0,.slice none 0 0] 121 (0,0))):=by
  have:=heap_alloc_new (w.alloc (.cells #[str t.name,.int .i64 t.args,.slice a k c] 121)) (.cells #[str [],.int .i64 0,.slice none 0 0] 121)
  rwa [World.size_alloc] at this
 clear hx hn K2
 go_enter Tryz.func138,Tryz.ntmps138
 go_wp2_with (go_at_call 61;refine R.out.mono ?_;rintro e w1 ⟨b,cap,rfl,hl,b1⟩;have HL:=Hd (And.intro hl b1);have E0:=Hd (kc b1 G0.out);have E1:=Hd (kc b1 G1.out);clear hl b1;obtain ⟨c0,c1,c2,f0,f1,f2⟩:=gZ E0.out;obtain ⟨d0,d1,d2,h0,h1,h2⟩:=gZ E1.out)
 obtain ⟨hl,b1⟩:=HL.out
 have g0 : (w1.setCell ⟨w.heap.size,2,none⟩ (.slice (some ⟨b,0,none⟩) k cap)).heap[w.heap.size + 1]? = some (.cells #[str [],.int .i64 0,.slice none 0 0] 121 (0,0)):=(Below.heap_setCell _ _ _ _ (by simp)).trans E1.out
 have g1:=aQ (o:=0) (u:=str t.name) g0
 have g2:=aQ (o:=1) (u:=.int .i64 t.args) g1
 have g3:=aQ (o:=2) (u:=.slice (some ⟨b,0,none⟩) k cap) g2
 have B : Below w.heap.size w w1:=eY b1
 refine bodyPost_ret (zM rfl _ _ (w.heap.size + 1) _ _ _ (0,0) rfl g3) rfl ?_
 refine ⟨b,k,cap,rfl,cQ.keep (by have:=KL.out;rw [← this];exact hl) (bP fun i h1 h2=>?_),(((B.setCell (by simp) _).setCell (by simp) _).setCell (by simp) _).setCell (by simp) _⟩
 simp only [lo,World.size_alloc,decide_eq_false_iff_not,Nat.not_lt] at h2 ⊢
 exact ⟨by omega,by rw [Below.heap_setCell _ _ _ _ (by simp;omega),Below.heap_setCell _ _ _ _ (by simp;omega),Below.heap_setCell _ _ _ _ (by simp;omega),Below.heap_setCell _ _ _ _ (by simp;omega)]⟩
theorem zG (n : Bs) (z : Int) (u : Value) (hu : u.oneCell' = true) : ∀ x ∈ [str n,Value.int .i64 z,u],x.oneCell' = true:=by
 intro x hx
 simp only [List.mem_cons,List.not_mem_nil,or_false] at hx
 rcases hx with rfl | rfl | rfl
 ·rfl
 ·rfl
 ·exact hu
theorem lentFuncs_c (l : List Fu) (hlen : l.length ≤ 1000) (hv : ∀ t ∈ l,t.value.length * 8 ≤ 140737488351232) (w : World) (a : Option Addr) (k c : Nat) (hx : fZ w l (.slice a k c)) :
  Calls Tryz.prog 63 #[.slice a k c] w fun e w'=>∃ b cap,e = .returned (.slice (some ⟨b,0,none⟩) k cap) ∧ iX (hide (lo w) w') l (.slice (some ⟨b,0,none⟩) k cap) ∧ Below w.heap.size w w':=by
 have hk:=hx.len
 have hlen : k ≤ 1000:=by omega
 have L1:=Hd hk.1
 have HX:=Hd hx
 have HN:=Hd hv
 obtain ⟨i0,hi0,hz0,hs0,hb0⟩:=info_parts info121m
 clear hk hx hv
 go_enter Tryz.func63,Tryz.ntmps63
 go_wp2_with (at_make;refine wpList_make_own _ rfl _ _ 31 rfl w.heap.size 121 i0 (.agg #[.string ⟨#[]⟩,.int .i64 0,.slice none 0 0]) 3 Tryz.underlying31 hi0 hz0 hs0 _ _ _ (k + 12) rfl rfl (by first | rfl | omega) (by rw [hb0];omega) (by unfold maxLen;omega) (Nat.le_refl _) ?_;intro w1 hown1 hgrow1)
 go_loopw [3,4] (fun u i wr=>∃ j : Nat,j ≤ k ∧ i = .int .i64 j ∧ u = .slice (some ⟨w.heap.size,0,none⟩) j (k + 12) ∧ Hid (iO w l w.heap.size k j 0 wr)) (fun _ i _=>k - (intOf i).toNat)
 case atStart=>exact ⟨0,Nat.zero_le _,rfl,rfl,iO.new hown1 hgrow1⟩
 case round =>
  clear hown1 hgrow1
  obtain ⟨j,hj,rfl,rfl,hs⟩:=hrel
  by_cases hlt : j < k
  ·obtain ⟨T,hT⟩:=aH (l:=l) (j:=j) (by rw [← L1.out];exact hlt)
   obtain ⟨bb,off,rfl,hc⟩:=HX.out.get (bG hT)
   obtain ⟨y0,y1,y2,d0,d1,d2,hy⟩:=hc j _ hT
   have hK:=aC hs.out.bw
   have c0:=hK _ _ d0;have c1:=hK _ _ d1;have c2:=hK _ _ d2
   have X:=Hd (hy.keep hK)
   have HT:=Hd hT
   clear hc hy hT hK d0 d1 d2
   go_wp2_with (first
    | (go_at_call 138;refine (lentFunc_c T _ _ _ _ X.out (HN.out T (List.mem_of_getElem? HT.out))).mono ?_;rintro e w3 ⟨b,n,cap,rfl,hl,b3⟩;obtain ⟨xs,o3,t3⟩:=(hs.out.moved b3).first;have OW:=Hd o3;have TC:=Hd t3;have HL:=Hd (And.intro hl b3);clear hl b3 o3 t3)
    | (at_builtin;refine wpList_append_fits _ rfl _ _ 31 rfl w.heap.size 121 i0 3 Tryz.underlying31 hi0 hs0 w.heap.size j (k + 12) _ rfl ((OW.out.alloc _).alloc _) ⟨w3.heap.size + 1,0,none⟩ 1 1 [str T.name,.int .i64 T.args,.slice (some ⟨b,0,none⟩) n cap] rfl rfl (news3' _ _ _ _ _ _) (zG _ _ _ rfl) (by omega) ?_;intro w4 hown4 hgrow4))
   go_roundw
   case rel =>
    refine ⟨j + 1,by omega,by go_num,rfl, ?_⟩
    obtain ⟨hl,b3⟩:=HL.out
    have LR:=hs.out.moved b3
    have bA : ∀ o o',Below w3.heap.size w3 ((w3.alloc o).alloc o'):=fun o o'=>bnew.alloc (by simp) _
    have e1:=LR.lt
    have e2:=LR.ge
    have e3:=hs.out.lt
    exact iO.put (FusC.keep (kB fun i h _=>(bA _ _).block i h) _ _ TC.out) (aA LR.bw (bA _ _)) (by simp;omega) e2 HT.out
     (⟨_,rfl,cQ.keep hl (bP fun i h1 h2=>by simp only [lo,decide_eq_false_iff_not,Nat.not_lt] at h2 ⊢;exact ⟨by omega,(bA _ _).block i h1⟩)⟩) hown4 hgrow4
   case measure=>simp [intOf];omega
  ·have hjk : j = k:=by omega
   have LR:=Hd hs.out
   subst hjk
   clear hs HX HN
   go_wp2_with fail
   go_loopw [3,6] (fun u i wr=>∃ p : Nat,p ≤ 12 ∧ i = .int .i64 p ∧ u = .slice (some ⟨w.heap.size,0,none⟩) (j + p) (j + 12) ∧ Hid (iO w l w.heap.size j j p wr)) (fun _ i _=>12 - (intOf i).toNat)
   case atStart=>exact ⟨0,by omega,rfl,rfl,LR.out⟩
   case round =>
    clear LR
    obtain ⟨p,hp,rfl,rfl,hs⟩:=hrel
    by_cases hlt : p < 12
    ·go_wp2_with (first
      | (go_at_call 139;refine (rV p hlt _).mono ?_;rintro e w3 ⟨rfl,b3⟩;obtain ⟨xs,o3,t3⟩:=(hs.out.moved b3).own;have OW:=Hd o3;have TC:=Hd t3;have B3:=Hd b3;clear b3 o3 t3)
      | (at_builtin;refine wpList_append_fits _ rfl _ _ 31 rfl w.heap.size 121 i0 3 Tryz.underlying31 hi0 hs0 w.heap.size (j + p) (j + 12) _ rfl (OW.out.alloc _) ⟨w3.heap.size,0,none⟩ 1 1 [str (cX p),.int .i64 0,.slice none 0 0] rfl rfl (wQ _ _ _ _ _) (zG _ _ _ rfl) (by omega) ?_;intro w4 hown4 hgrow4))
     go_roundw
     case rel =>
      refine ⟨p + 1,by omega,by go_num,rfl, ?_⟩
      have LR:=hs.out.moved B3.out
      have bA : ∀ o,Below w3.heap.size w3 (w3.alloc o):=fun o=>bnew
      have e1:=LR.lt
      have e2:=LR.ge
      exact iO.mark (FusC.keep (kB fun i h _=>(bA _).block i h) _ _ TC.out) (aA LR.bw (bA _)) (by simp;omega) e2 hown4 hgrow4
     case measure=>simp [intOf];omega
    ·have hp12 : p = 12:=by omega
     subst hp12
     have LE:=Hd (hs.out.lent L1.out (by unfold maxLen;omega))
     have LB:=Hd hs.out.bw
     clear hs
     go_wp2_with fail
     go_ret
     exact ⟨_,_,rfl,LE.out,LB.out⟩
end Go.Proofs.YtcandidgaegghaaGreatDoor
