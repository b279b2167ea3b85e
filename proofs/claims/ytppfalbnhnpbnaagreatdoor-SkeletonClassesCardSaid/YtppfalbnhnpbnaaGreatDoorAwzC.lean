/- lyceumlaw30.awake answers true. Conditions: the tables lie as laid. -/
import Derived.Test.YtppfalbnhnpbnaaGreatDoorAwBC
import Derived.Test.YtppfalbnhnpbnaaGreatDoorAwDC
import Derived.Test.YtppfalbnhnpbnaaGreatDoorAwEC
import Derived.Deep.DeepCutAuto
import Derived.Test.YtppfalbnhnpbnaaGreatDoorWtBC
import Derived.Test.YtppfalbnhnpbnaaGreatDoorMakeC
set_option linter.unusedSimpArgs false
set_option linter.unusedVariables false
namespace Go.Proofs.YtppfalbnhnpbnaaGreatDoor
open Go Go.RowKit Ly
set_option maxRecDepth 10000
theorem AK {w : World} {t : Tm} {v : Bool} {nm : Bs} {a : Option Addr} {n c : Nat} (h : dC w t (.agg #[.bool v,str nm,.slice a n c])) :
  bG (w.alloc (.cells #[.bool v,str nm,.slice a n c] 38)) [t] (.slice (some ⟨w.heap.size,0,none⟩) 1 1):=by
 obtain ⟨a',n',c',e,h1⟩:=h
 simp only [Value.agg.injEq,Array.mk.injEq,List.cons.injEq,Value.bool.injEq,and_true,true_and] at e
 obtain ⟨rfl,e1,e2⟩:=e
 rw [← e2] at h1
 exact uZ (t:=t) (by rw [← e1];exact heap_alloc_new w _) (h1.keep (aA (aZ _ _)))
theorem AM {w : World} {t t' : Tm} {v v' : Bool} {nm nm' : Bs} {a a' : Option Addr} {n c n' c' : Nat} (h : dC w t (.agg #[.bool v,str nm,.slice a n c])) (h' : dC w t' (.agg #[.bool v',str nm',.slice a' n' c'])) :
  bG (w.alloc (.cells #[.bool v,str nm,.slice a n c,.bool v',str nm',.slice a' n' c'] 38)) [t,t'] (.slice (some ⟨w.heap.size,0,none⟩) 2 2):=by
 obtain ⟨b,k,d,e,h1⟩:=h
 simp only [Value.agg.injEq,Array.mk.injEq,List.cons.injEq,Value.bool.injEq,and_true,true_and] at e
 obtain ⟨rfl,e1,e2⟩:=e
 rw [← e2] at h1
 obtain ⟨b',k',d',e,h1'⟩:=h'
 simp only [Value.agg.injEq,Array.mk.injEq,List.cons.injEq,Value.bool.injEq,and_true,true_and] at e
 obtain ⟨rfl,e1',e2⟩:=e
 rw [← e2] at h1'
 exact yH (t:=t) (t':=t') (by rw [← e1,← e1'];exact heap_alloc_new w _) (h1.keep (aA (aZ _ _))) (h1'.keep (aA (aZ _ _)))
theorem vB (w : World) (nm : Bs) : dC w (.mk true nm []) (.agg #[.bool true,str nm,.slice none 0 0]):=⟨none,0,0,rfl,At.sl_nil (Nat.zero_le _)⟩
theorem three_blocks (w : World) (a b c : Obj) : (((w.alloc a).alloc b).alloc c).heap[w.heap.size]? = some a ∧ (((w.alloc a).alloc b).alloc c).heap[w.heap.size + 1]? = some b ∧ (((w.alloc a).alloc b).alloc c).heap[w.heap.size + 1 + 1]? = some c:=by
 refine ⟨aI _ (aI _ (heap_alloc_new w _)), ?_, ?_⟩
 ·have:=heap_alloc_new (w.alloc a) b
  rw [World.size_alloc] at this
  exact aI _ this
 ·have:=heap_alloc_new ((w.alloc a).alloc b) c
  rw [World.size_alloc,World.size_alloc] at this
  exact this
theorem dK (p : Nat → Bool) (w : World) (o : Obj) : bI (hide p w) (w.alloc o):=fun a v h=>by
 rw [cD (eA h)] at h
 exact aA (aZ w o) a v h
theorem fV.mk {g : Nat} {L R : List Fm} {w : World} {a b : Option Addr} {n c m d : Nat} (h0 : w.heap[g]? = some (.cells #[.slice a n c,.slice b m d] 26 (0,0))) (h1 : aN w L (.slice a n c)) (h2 : aN w R (.slice b m d)) : fV g L R w:=⟨_,_,_,_,_,_,h0,h1,h2⟩
def awC1 : List Fm:=[.mk 6 [] [] [.mk 1 [80,48,49] [] [],.mk 1 [80,48,50] [] []]]
theorem ren8 (x : Value) (w : World) (hr : cU w) (hx : cV w [] [.mk 4 [] [] [aP,aQ]] x) : Calls Tryz.prog 29 #[x,.agg #[str [81],.int .i64 0],.agg #[str [82],.int .i64 0]] w (RetR [] [.mk 4 [] [] [aP,aR]] 0 w):=by
 have h:=oM [] [.mk 4 [] [] [aP,aQ]] x w hr hx (gT (by kernel_rfl)) [81] [82] 0 (by kernel_rfl) (by kernel_rfl) (by decide)
 have e : renS [] [.mk 4 [] [] [aP,aQ]] [81] [82] 0 = ([],[.mk 4 [] [] [aP,aR]],0):=by kernel_rfl
 rw [e] at h
 exact h
theorem ren9 (x : Value) (w : World) (hr : cU w) (hx : cV w [] [.mk 4 [] [] [aP,aQ]] x) : Calls Tryz.prog 29 #[x,.agg #[str [81],.int .i64 0],.agg #[str [80],.int .i64 0]] w (RetR [] [] 300 w):=by
 have h:=oM [] [.mk 4 [] [] [aP,aQ]] x w hr hx (gT (by kernel_rfl)) [81] [80] 0 (by kernel_rfl) (by kernel_rfl) (by decide)
 have e : renS [] [.mk 4 [] [] [aP,aQ]] [81] [80] 0 = ([],[],300):=by kernel_rfl
 rw [e] at h
 exact h
theorem ren10 (x : Value) (w : World) (hr : cU w) (hx : cV w [] [.mk 4 [] [] [aP,aQ]] x) : Calls Tryz.prog 29 #[x,.agg #[str [82],.int .i64 0],.agg #[str [83],.int .i64 0]] w (RetR [] [] 6 w):=by
 have h:=oM [] [.mk 4 [] [] [aP,aQ]] x w hr hx (gT (by kernel_rfl)) [82] [83] 0 (by kernel_rfl) (by kernel_rfl) (by decide)
 have e : renS [] [.mk 4 [] [] [aP,aQ]] [82] [83] 0 = ([],[],6):=by kernel_rfl
 rw [e] at h
 exact h
set_option maxHeartbeats 8000000 in
theorem awake_c (w : World) (hr : cU w) (hp : cK w) : Calls Tryz.prog 9 #[] w fun e w'=>e = .returned (.bool true) ∧ Below w.heap.size w w':=by
 have HR:=Lib.hid hr
 have HP:=Lib.hid hp
 clear hr hp
 have OK1 : Hid (okSq [.mk 6 [] [] [aQ,aR]] [aS]):=gT (by kernel_rfl)
 go_enter Tryz.func9,Tryz.ntmps9
 go_upto_region 1 with fail
 go_cut [1,2,3] from 20 to 22 (fun u1 u2 u3 wx=>∃ g1 g2 g3,u1 = one g1 ∧ u2 = one g2 ∧ u3 = one g3 ∧ Hid (Below w.heap.size w wx ∧ AwV g1 g2 g3 wx))
 case first =>
  go_wp2_with (first
   | (have Z:=B2.out;clear Z;go_at_call 18;refine (dR _ _ _ _ _).mono ?_;rintro e w3 ⟨rfl,b3⟩;have B3:=Lib.hid b3;clear b3)
   | (have Z:=B1.out;clear Z;go_at_call 18;refine (dR _ _ _ _ _).mono ?_;rintro e w2 ⟨rfl,b2⟩;have B2:=Lib.hid b2;clear b2)
   | (go_at_call 18;refine (dR _ _ _ _ _).mono ?_;rintro e w1 ⟨rfl,b1⟩;have B1:=Lib.hid b1;clear b1))
  go_meet
  obtain ⟨s1,s2,s3⟩:=three_blocks w3 (.cells #[.int .u8 1,str [80],.slice none 0 0,.slice none 0 0] 40) (.cells #[.int .u8 1,str [81],.slice none 0 0,.slice none 0 0] 40) (.cells #[.int .u8 1,str [82],.slice none 0 0,.slice none 0 0] 40)
  exact ⟨_,_,_,rfl,rfl,rfl,aG (aG (aG B1.out B2.out) B3.out) ((((Below.refl _ _).alloc (Nat.le_refl _) _).alloc (by simp) _).alloc (by simp;omega) _),s1,s2,s3⟩
 case rest =>
 obtain ⟨g1,g2,g3,rfl,rfl,rfl,A⟩:=hcut
 obtain ⟨⟨q0,q1,q2,q3⟩,-⟩:=aL A.out.2.c2
 obtain ⟨⟨r0,r1,r2,r3⟩,-⟩:=aL A.out.2.c3
 go_upto_region 2 with fail
 go_cut [4,5] from 23 to 42 (fun u4 u5 wx=>∃ g4,u4 = one g4 ∧ u5 = .int .i64 0 ∧ Hid (Below wc.heap.size wc wx ∧ fV g4 awC1 [aW] wx))
 case first =>
  go_wp2_with (first
   | (
     have Z:=N7.out;clear Z;go_at_call 11
     refine (Of_c [.mk 6 [] [] [aQ,aR]] [aS] _ _ (HR.out.keep (aA (aG A.out.1 N7.out.1))) (HP.out.below (aG A.out.1 N7.out.1)) N7.out.2 OK1.out.1 OK1.out.2.1 OK1.out.2.2.1 OK1.out.2.2.2).mono ?_
     rw [aw1]
     rintro e w8 ⟨xa,xn,xc,xb,xm,xd,rfl,h1,h2,b8⟩
     have N8:=Lib.hid (And.intro (aG N7.out.1 b8) (And.intro h1 h2))
     clear h1 h2 b8)
   | (
     have Z:=N6.out;clear Z;go_at_call 20
     refine (sq_c _ _ _ _ _ _ _).mono ?_
     rintro e w7 ⟨rfl,b7⟩
     have N7:=Lib.hid (And.intro (aG N6.out.1 (bV b7)) (show cV w7 [.mk 6 [] [] [aQ,aR]] [aS] _ from ⟨_,_,_,_,_,_,rfl,N6.out.2.1.keep (aA (bV b7)),(kO N6.out.2.2).keep (aA b7)⟩))
     clear b7)
   | (have Z:=N6.out;clear Z;go_at_call 21;refine (fs_c _ _).mono ?_;rintro e w1 ⟨rfl,rfl⟩)
   | (
     have Z:=N5.out;clear Z;go_at_call 32
     refine (sN 9 [121] (.mk 1 [83] [.mk true [121] [],.mk false [102] [.mk true [122] []]] []) _ _ N5.out.2.2).mono ?_
     rintro e w6 ⟨v6,rfl,h6,b6⟩
     obtain ⟨xa,xn,xc,xb,xm,xd,rfl,-⟩:=id h6
     have N6:=Lib.hid (And.intro (aG N5.out.1 b6) (And.intro (N5.out.2.1.keep (aA b6)) h6))
     clear h6 b6)
   | (
     have Z:=N4.out;clear Z;go_at_call 18
     refine (vG [83] [.mk true [121] [],.mk false [102] [.mk true [122] []]] _ _ _ _ (AM (vB _ _) N4.out.2.2)).mono ?_
     rintro e w5 ⟨v5,rfl,h5,b5⟩
     obtain ⟨xa,xn,xc,xb,xm,xd,rfl,-⟩:=id h5
     have N5:=Lib.hid (And.intro (aG N4.out.1 (bV b5)) (And.intro (N4.out.2.1.keep (aA (bV b5))) h5))
     clear h5 b5)
   | (
     have Z:=N3.out;clear Z;go_at_call 34
     refine (sJ [102] [.mk true [122] []] _ _ _ _ (AK (vB _ _))).mono ?_
     rintro e w4 ⟨v4,rfl,h4,b4⟩
     obtain ⟨xa,xn,xc,rfl,-⟩:=id h4
     have N4:=Lib.hid (And.intro (aG N3.out.1 (bV b4)) (And.intro (N3.out.2.keep (aA (bV b4))) h4))
     clear h4 b4)
   | (
     have Z:=N2.out;clear Z;go_at_call 33
     refine (eI _ _).mono ?_
     rintro e w3 ⟨rfl,b3⟩
     have N3:=Lib.hid (And.intro (aG N2.out.1 b3) (N2.out.2.keep (aA b3)))
     clear b3)
   | (
     have Z:=N1.out;clear Z;go_at_call 33
     refine (eI _ _).mono ?_
     rintro e w2 ⟨rfl,b2⟩
     have N2:=Lib.hid (And.intro (aG N1.out.1 (bV b2)) ((kO N1.out.2).keep (aA b2)))
     clear b2)
   | (have Z:=N1.out;clear Z;go_at_call 21;refine (fs_c _ _).mono ?_;rintro e w1' ⟨rfl,rfl⟩)
   | (
     go_at_call 17
     refine (fJ 6 [aQ,aR] _ _ _ _ (kP (eR _ [81]) (eR _ [82]))).mono ?_
     rintro e w1 ⟨v1,rfl,h1,b1⟩
     obtain ⟨xa,xn,xc,xb,xm,xd,rfl,-⟩:=id h1
     have N1:=Lib.hid (And.intro (bV b1) h1)
     clear h1 b1))
  go_meet
  exact ⟨_,rfl,rfl,aG N8.out.1 (aZ _ _),fV.mk (heap_alloc_new _ _) (N8.out.2.1.keep (dK _ _ _)) (N8.out.2.2.keep (dK _ _ _))⟩
 case rest =>
 obtain ⟨g4,rfl,rfl,S4⟩:=hcut
 have A2:=Lib.hid (And.intro (aG A.out.1 S4.out.1) (A.out.2.below S4.out.1))
 clear A q0 q1 q2 q3 r0 r1 r2 r3 OK1
 go_upto_region 3 with fail
 go_cut [6] from 43 to 58 (fun u6 wx=>∃ g6,u6 = one g6 ∧ Hid (Below wc.heap.size wc wx ∧ fV g6 awC1 [aW] wx))
 case first =>
  go_wp2_with (first
   | (
     have Z:=N6.out;clear Z;go_at_call 20
     refine (sq_c _ _ _ _ _ _ _).mono ?_
     rintro e w7 ⟨rfl,b7⟩
     have N7:=Lib.hid (And.intro (aG N6.out.1 (bV b7)) (And.intro (N6.out.2.1.keep (aA (bV b7))) ((kO N6.out.2.2).keep (aA b7))))
     clear b7)
   | (have Z:=N6.out;clear Z;go_at_call 21;refine (fs_c _ _).mono ?_;rintro e w1 ⟨rfl,rfl⟩)
   | (
     have Z:=N5.out;clear Z;go_at_call 32
     refine (sN 9 [120,49] (.mk 1 [80,50,49] [.mk true [120,49] [],.mk false [97,49,49] [.mk true [117,49] []]] []) _ _ N5.out.2.2).mono ?_
     rintro e w6 ⟨v6,rfl,h6,b6⟩
     obtain ⟨xa,xn,xc,xb,xm,xd,rfl,-⟩:=id h6
     have N6:=Lib.hid (And.intro (aG N5.out.1 b6) (And.intro (N5.out.2.1.keep (aA b6)) h6))
     clear h6 b6)
   | (
     have Z:=N4.out;clear Z;go_at_call 18
     refine (vG [80,50,49] [.mk true [120,49] [],.mk false [97,49,49] [.mk true [117,49] []]] _ _ _ _ (AM (vB _ _) N4.out.2.2)).mono ?_
     rintro e w5 ⟨v5,rfl,h5,b5⟩
     obtain ⟨xa,xn,xc,xb,xm,xd,rfl,-⟩:=id h5
     have N5:=Lib.hid (And.intro (aG N4.out.1 (bV b5)) (And.intro (N4.out.2.1.keep (aA (bV b5))) h5))
     clear h5 b5)
   | (
     have Z:=N3.out;clear Z;go_at_call 34
     refine (sJ [97,49,49] [.mk true [117,49] []] _ _ _ _ (AK (vB _ _))).mono ?_
     rintro e w4 ⟨v4,rfl,h4,b4⟩
     obtain ⟨xa,xn,xc,rfl,-⟩:=id h4
     have N4:=Lib.hid (And.intro (aG N3.out.1 (bV b4)) (And.intro (N3.out.2.keep (aA (bV b4))) h4))
     clear h4 b4)
   | (
     have Z:=N2.out;clear Z;go_at_call 33
     refine (eI _ _).mono ?_
     rintro e w3 ⟨rfl,b3⟩
     have N3:=Lib.hid (And.intro (aG N2.out.1 b3) (N2.out.2.keep (aA b3)))
     clear b3)
   | (
     have Z:=N1.out;clear Z;go_at_call 33
     refine (eI _ _).mono ?_
     rintro e w2 ⟨rfl,b2⟩
     have N2:=Lib.hid (And.intro (aG N1.out.1 (bV b2)) ((kO N1.out.2).keep (aA b2)))
     clear b2)
   | (have Z:=N1.out;clear Z;go_at_call 21;refine (fs_c _ _).mono ?_;rintro e w1' ⟨rfl,rfl⟩)
   | (
     have Z:=M2.out;clear Z;go_at_call 17
     refine (fJ 6 [.mk 1 [80,48,49] [] [],.mk 1 [80,48,50] [] []] _ _ _ _ (kP (eR _ [80,48,49]) (eR _ [80,48,50]))).mono ?_
     rintro e w1 ⟨v1,rfl,h1,b1⟩
     obtain ⟨xa,xn,xc,xb,xm,xd,rfl,-⟩:=id h1
     have N1:=Lib.hid (And.intro (aG M2.out (bV b1)) h1)
     clear h1 b1)
   | (have Z:=M1.out;clear Z;go_at_call 18;refine (dR _ _ _ _ _).mono ?_;rintro e w1 ⟨rfl,b1⟩;have M2:=Lib.hid (aG M1.out b1);clear b1)
   | (go_at_call 18;refine (dR _ _ _ _ _).mono ?_;rintro e w1 ⟨rfl,b1⟩;have M1:=Lib.hid b1;clear b1))
  go_meet
  exact ⟨_,rfl,aG N7.out.1 (aZ _ _),fV.mk (heap_alloc_new _ _) (N7.out.2.1.keep (aA (aZ _ _))) (N7.out.2.2.keep (aA (aZ _ _)))⟩
 case rest =>
 obtain ⟨g6,rfl,S6⟩:=hcut
 have A3:=Lib.hid (And.intro (aG A2.out.1 S6.out.1) (A2.out.2.below S6.out.1))
 have T4:=Lib.hid (S4.out.2.below S6.out.1)
 have T6:=Lib.hid S6.out.2
 clear A2 S4 S6
 go_wp2_with fail
 refine eT aw4 (by kernel_rfl) (by kernel_rfl) (by kernel_rfl) 194 rfl (by kernel_rfl) [60,61,62,63,64,65,66,67,68,69,70,71,72,73,74,59,75,76,7,8] (by kernel_rfl) (rAt aw4R) (fZ aw4_stays) [0,1,2,3,4,5,6,7,8,9,10,11,12,13,14,15,16,17,18,19] (by kernel_rfl) (aw4_steps _ _ _ g1 g2 g3 rfl rfl rfl A3.out.2 (HR.out.keep (aA A3.out.1)) (HP.out.below A3.out.1)) (fun x wy hby hx=>?_)
 have e7 : x 18 = .bool true:=hx 18 (of_decide_eq_true (by kernel_rfl))
 have e8 : x 19 = .int .i64 0:=hx 19 (of_decide_eq_true (by kernel_rfl))
 simp only [cP,List.map_cons,List.map_nil,List.setIfInBounds_toArray,List.set_cons_zero,List.set_cons_succ,e7,e8]
 have A4:=Lib.hid (And.intro (aG A3.out.1 hby) (A3.out.2.below hby))
 have U4:=Lib.hid (T4.out.below hby)
 have U6:=Lib.hid (T6.out.below hby)
 try generalize x 0 = u360
 try generalize x 1 = u361
 try generalize x 2 = u362
 try generalize x 3 = u363
 try generalize x 4 = u364
 try generalize x 5 = u365
 try generalize x 6 = u366
 try generalize x 7 = u367
 try generalize x 8 = u368
 try generalize x 9 = u369
 try generalize x 10 = u370
 try generalize x 11 = u371
 try generalize x 12 = u372
 try generalize x 13 = u373
 try generalize x 14 = u374
 try generalize x 15 = u359
 try generalize x 16 = u375
 try generalize x 17 = u376
 try generalize x 18 = u307
 try generalize x 19 = u308
 clear hx e7 e8 A3 T4 T6
 go_wp2_with fail
 refine eT aw5 (by kernel_rfl) (by kernel_rfl) (by kernel_rfl) 194 rfl (by kernel_rfl) [78,79,80,81,82,83,84,85,86,87,88,89,90,91,92,77,93,94,9,10] (by kernel_rfl) (rAt aw5R) (fZ aw5_stays) [0,1,2,3,4,5,6,7,8,9,10,11,12,13,14,15,16,17,18,19] (by kernel_rfl) (aw5_steps _ _ _ g1 g2 g3 rfl rfl rfl A4.out.2 (HR.out.keep (aA A4.out.1)) (HP.out.below A4.out.1)) (fun x wy hby hx=>?_)
 have e9 : x 18 = .bool false:=hx 18 (of_decide_eq_true (by kernel_rfl))
 have e10 : x 19 = .int .i64 0:=hx 19 (of_decide_eq_true (by kernel_rfl))
 simp only [cP,List.map_cons,List.map_nil,List.setIfInBounds_toArray,List.set_cons_zero,List.set_cons_succ,e9,e10]
 have A5:=Lib.hid (And.intro (aG A4.out.1 hby) (A4.out.2.below hby))
 have V4:=Lib.hid (U4.out.below hby)
 have V6:=Lib.hid (U6.out.below hby)
 try generalize x 0 = u378
 try generalize x 1 = u379
 try generalize x 2 = u380
 try generalize x 3 = u381
 try generalize x 4 = u382
 try generalize x 5 = u383
 try generalize x 6 = u384
 try generalize x 7 = u385
 try generalize x 8 = u386
 try generalize x 9 = u387
 try generalize x 10 = u388
 try generalize x 11 = u389
 try generalize x 12 = u390
 try generalize x 13 = u391
 try generalize x 14 = u392
 try generalize x 15 = u377
 try generalize x 16 = u393
 try generalize x 17 = u394
 try generalize x 18 = u309
 try generalize x 19 = u310
 clear hx e9 e10 A4 U4 U6
 go_wp2_with fail
 refine eT aw6 (by kernel_rfl) (by kernel_rfl) (by kernel_rfl) 194 rfl (by kernel_rfl) [96,97,98,99,100,101,102,103,104,105,106,107,108,109,110,111,112,113,114,115,116,117,118,95,119,120,11,12] (by kernel_rfl) (rAt aw6R) (fZ aw6_stays) [0,1,2,3,4,5,6,7,8,9,10,11,12,13,14,15,16,17,18,19,20,21,22,23,24,25,26,27] (by kernel_rfl) (aw6_steps _ _ _ g1 g2 g3 rfl rfl rfl A5.out.2 (HR.out.keep (aA A5.out.1)) (HP.out.below A5.out.1)) (fun x wy hby hx=>?_)
 have e11 : x 26 = .bool false:=hx 26 (of_decide_eq_true (by kernel_rfl))
 have e12 : x 27 = .int .i64 0:=hx 27 (of_decide_eq_true (by kernel_rfl))
 simp only [cP,List.map_cons,List.map_nil,List.setIfInBounds_toArray,List.set_cons_zero,List.set_cons_succ,e11,e12]
 have A6:=Lib.hid (And.intro (aG A5.out.1 hby) (A5.out.2.below hby))
 have X4:=Lib.hid (V4.out.below hby)
 have X6:=Lib.hid (V6.out.below hby)
 try generalize x 0 = u396
 try generalize x 1 = u397
 try generalize x 2 = u398
 try generalize x 3 = u399
 try generalize x 4 = u400
 try generalize x 5 = u401
 try generalize x 6 = u402
 try generalize x 7 = u403
 try generalize x 8 = u404
 try generalize x 9 = u405
 try generalize x 10 = u406
 try generalize x 11 = u407
 try generalize x 12 = u408
 try generalize x 13 = u409
 try generalize x 14 = u410
 try generalize x 15 = u411
 try generalize x 16 = u412
 try generalize x 17 = u413
 try generalize x 18 = u414
 try generalize x 19 = u415
 try generalize x 20 = u416
 try generalize x 21 = u417
 try generalize x 22 = u418
 try generalize x 23 = u395
 try generalize x 24 = u419
 try generalize x 25 = u420
 try generalize x 26 = u311
 try generalize x 27 = u312
 clear hx e11 e12 A5 V4 V6
 go_upto_region 7 with fail
 obtain ⟨⟨p0,p1,p2,p3⟩,-⟩:=aL A6.out.2.c1
 obtain ⟨⟨q0,q1,q2,q3⟩,-⟩:=aL A6.out.2.c2
 go_cut [13] from 121 to 127 (fun u13 wx=>∃ g13,u13 = one g13 ∧ Hid (Below wy.heap.size wy wx ∧ fV g13 [] [.mk 4 [] [] [aP,aQ]] wx))
 case first =>
  go_wp2_with (first
   | (
     have Z:=N1.out;clear Z;go_at_call 20
     refine (sq_c _ _ _ _ _ _ _).mono ?_
     rintro e w7 ⟨rfl,b7⟩
     have N7:=Lib.hid (And.intro (aG N1.out.1 (bV b7)) ((kO N1.out.2).keep (aA b7)))
     clear b7)
   | (have Z:=N1.out;clear Z;go_at_call 21;refine (fs_c _ _).mono ?_;rintro e w1' ⟨rfl,rfl⟩)
   | (
     go_at_call 17
     refine (fJ 4 [aP,aQ] _ _ _ _ (kP (eR _ [80]) (eR _ [81]))).mono ?_
     rintro e w1 ⟨v1,rfl,h1,b1⟩
     obtain ⟨xa,xn,xc,xb,xm,xd,rfl,-⟩:=id h1
     have N1:=Lib.hid (And.intro (bV b1) h1)
     clear h1 b1))
  go_meet
  exact ⟨_,rfl,aG N7.out.1 (aZ _ _),fV.mk (heap_alloc_new _ _) (At.sl_nil (Nat.zero_le _)) (N7.out.2.keep (aA (aZ _ _)))⟩
 case rest =>
 obtain ⟨g13,rfl,S13⟩:=hcut
 have A7:=Lib.hid (And.intro (aG A6.out.1 S13.out.1) (A6.out.2.below S13.out.1))
 have Y4:=Lib.hid (X4.out.below S13.out.1)
 have Y6:=Lib.hid (X6.out.below S13.out.1)
 have T13:=Lib.hid S13.out.2
 clear A6 X4 X6 S13 p0 p1 p2 p3 q0 q1 q2 q3
 obtain ⟨ba,bn,bc,bb,bm,bd,hg,hL,hQ⟩:=T13.out
 obtain ⟨p0,p1,-,-⟩:=row2 hg
 have SV : Hid (cV wc [] [.mk 4 [] [] [aP,aQ]] (.agg #[.slice ba bn bc,.slice bb bm bd])):=⟨_,_,_,_,_,_,rfl,hL,hQ⟩
 clear hg hL hQ
 go_upto_region 8 with fail
 go_cut [14,15] from 128 to 134 (fun u14 u15 wx=>∃ g14,u14 = one g14 ∧ u15 = .int .i64 0 ∧ Hid (Below wc.heap.size wc wx ∧ fV g14 [] [.mk 4 [] [] [aP,aR]] wx))
 case first =>
  go_wp2_with (
         go_at_call 29
         refine (ren8 _ _ (HR.out.keep (aA A7.out.1)) SV.out).mono ?_
         rintro e w8 ⟨xa,xn,xc,xb,xm,xd,rfl,h1,h2,b8⟩
         have N8:=Lib.hid (And.intro b8 (And.intro h1 h2))
         clear h1 h2 b8)
  go_meet
  exact ⟨_,rfl,rfl,aG N8.out.1 (aZ _ _),fV.mk (heap_alloc_new _ _) (N8.out.2.1.keep (dK _ _ _)) (N8.out.2.2.keep (dK _ _ _))⟩
 case rest =>
 obtain ⟨g14,rfl,rfl,S14⟩:=hcut
 have A8:=Lib.hid (And.intro (aG A7.out.1 S14.out.1) (A7.out.2.below S14.out.1))
 have Z4:=Lib.hid (Y4.out.below S14.out.1)
 have Z6:=Lib.hid (Y6.out.below S14.out.1)
 have T13a:=Lib.hid (T13.out.below S14.out.1)
 have Q14:=Lib.hid S14.out.2
 clear A7 S14 SV p0 p1 Y4 Y6 T13
 obtain ⟨ba,bn,bc,bb,bm,bd,hg,hL,hQ⟩:=T13a.out
 obtain ⟨p0,p1,-,-⟩:=row2 hg
 have SV : Hid (cV wc [] [.mk 4 [] [] [aP,aQ]] (.agg #[.slice ba bn bc,.slice bb bm bd])):=⟨_,_,_,_,_,_,rfl,hL,hQ⟩
 clear hg hL hQ
 go_upto_region 9 with fail
 go_cut [16,17] from 135 to 141 (fun u14 u15 wx=>∃ g14,u14 = one g14 ∧ u15 = .int .i64 300 ∧ Hid (Below wc.heap.size wc wx ∧ fV g14 [] [] wx))
 case first =>
  go_wp2_with (
         go_at_call 29
         refine (ren9 _ _ (HR.out.keep (aA A8.out.1)) SV.out).mono ?_
         rintro e w8 ⟨xa,xn,xc,xb,xm,xd,rfl,h1,h2,b8⟩
         have N8:=Lib.hid (And.intro b8 (And.intro h1 h2))
         clear h1 h2 b8)
  go_meet
  exact ⟨_,rfl,rfl,aG N8.out.1 (aZ _ _),fV.mk (heap_alloc_new _ _) (N8.out.2.1.keep (dK _ _ _)) (N8.out.2.2.keep (dK _ _ _))⟩
 case rest =>
 obtain ⟨g16,rfl,rfl,S16⟩:=hcut
 have A9:=Lib.hid (And.intro (aG A8.out.1 S16.out.1) (A8.out.2.below S16.out.1))
 have C4:=Lib.hid (Z4.out.below S16.out.1)
 have C6:=Lib.hid (Z6.out.below S16.out.1)
 have T13b:=Lib.hid (T13a.out.below S16.out.1)
 have Q14a:=Lib.hid (Q14.out.below S16.out.1)
 have Q16:=Lib.hid S16.out.2
 clear A8 S16 SV p0 p1 Z4 Z6 T13a Q14
 obtain ⟨ba,bn,bc,bb,bm,bd,hg,hL,hQ⟩:=T13b.out
 obtain ⟨p0,p1,-,-⟩:=row2 hg
 have SV : Hid (cV wc [] [.mk 4 [] [] [aP,aQ]] (.agg #[.slice ba bn bc,.slice bb bm bd])):=⟨_,_,_,_,_,_,rfl,hL,hQ⟩
 clear hg hL hQ
 go_upto_region 10 with fail
 go_cut [18,19] from 142 to 148 (fun u14 u15 wx=>∃ g14,u14 = one g14 ∧ u15 = .int .i64 6 ∧ Hid (Below wc.heap.size wc wx ∧ fV g14 [] [] wx))
 case first =>
  go_wp2_with (
         go_at_call 29
         refine (ren10 _ _ (HR.out.keep (aA A9.out.1)) SV.out).mono ?_
         rintro e w8 ⟨xa,xn,xc,xb,xm,xd,rfl,h1,h2,b8⟩
         have N8:=Lib.hid (And.intro b8 (And.intro h1 h2))
         clear h1 h2 b8)
  go_meet
  exact ⟨_,rfl,rfl,aG N8.out.1 (aZ _ _),fV.mk (heap_alloc_new _ _) (N8.out.2.1.keep (dK _ _ _)) (N8.out.2.2.keep (dK _ _ _))⟩
 case rest =>
 obtain ⟨g18,rfl,rfl,S18⟩:=hcut
 have A10:=Lib.hid (And.intro (aG A9.out.1 S18.out.1) (A9.out.2.below S18.out.1))
 have D4:=Lib.hid (C4.out.below S18.out.1)
 have D6:=Lib.hid (C6.out.below S18.out.1)
 have T13c:=Lib.hid (T13b.out.below S18.out.1)
 have Q14b:=Lib.hid (Q14a.out.below S18.out.1)
 have Q18:=Lib.hid S18.out.2
 clear A9 S18 SV p0 p1 C4 C6 T13b Q14a
 go_wp2_with fail
 refine eT aw11 (by kernel_rfl) (by kernel_rfl) (by kernel_rfl) 194 rfl (by kernel_rfl) [149,150,151,152,153,154,155,156,157,158,159,160,161,162,163,164,165,166,167,168,169,170,171,172,173,174,175,176,177,178,179,180,181,182,183,184,185,186,187,188,189,190,191,192,193,0] (by kernel_rfl) (rAt (xA awC1 [aW])) (fZ (aw11_stays _ _)) [0,1,2,3,4,5,6,7,8,9,10,11,12,13,14,15,16,17,18,19,20,21,22,23,24,25,26,27,28,29,30,31,32,33,34,35,36,37,38,39,40,41,42,43,44,45] (by kernel_rfl) (aw11_steps awC1 [aW] _ _ _ g1 g2 g3 g4 g6 g14 rfl rfl rfl rfl rfl rfl rfl rfl rfl rfl rfl rfl rfl rfl rfl A10.out.2 D4.out D6.out Q14b.out) (fun x wz hbz hx=>?_)
 have e0 : x 45 = .bool true:=hx 45 (of_decide_eq_true (by kernel_rfl))
 simp only [cP,List.map_cons,List.map_nil,List.setIfInBounds_toArray,List.set_cons_zero,List.set_cons_succ,e0]
 go_wp2_with fail
 go_ret
 exact ⟨rfl,aG A10.out.1 hbz⟩
end Go.Proofs.YtppfalbnhnpbnaaGreatDoor
namespace Ly
open Go Go.RowKit
mutual
def D.live : D → Prop
 | .val _=>True
 | .sl _ n ds=>(n = 0 ∨ ∃ z,ds[0]? = some (.val z) ∧ z ≠ .int .u8 0 ∧ z ≠ str [] ∧ z ≠ .slice none 0 0) ∧ hZ ds
def hZ : List D → Prop
 | []=>True
 | d :: ds=>d.live ∧ hZ ds
end
theorem hZ.append : ∀ {a b : List D},hZ a → hZ b → hZ (a ++ b)
 | [],_,_,h=>h
 | _ :: _,_,h,k=>⟨h.1,hZ.append h.2 k⟩
theorem oU : ∀ ts : List Tm,ts.length = 0 ∨ ∃ z,(bS ts)[0]? = some (.val z) ∧ z ≠ .int .u8 0 ∧ z ≠ str [] ∧ z ≠ .slice none 0 0
 | []=>.inl rfl
 | .mk v n az :: ts=>.inr ⟨.bool v,rfl,by simp,by simp [str],by simp⟩
mutual
theorem Tm.ds_live : ∀ t : Tm,hZ t.ds
 | .mk v n ts=>⟨trivial,trivial,⟨oU ts,kJ ts⟩,trivial⟩
theorem kJ : ∀ ts : List Tm,hZ (bS ts)
 | []=>trivial
 | t :: ts=>(Tm.ds_live t).append (kJ ts)
end
theorem Fm.ok_pos {f : Fm} (h : f.ok = true) : f.op ≠ 0:=by
 obtain ⟨op,n,az,sub⟩:=f
 rcases Fm.shape h with ⟨-,e,-⟩ | ⟨-,e,-⟩ | ⟨g,-,-,-,e⟩ | ⟨g,k,-,e,-⟩
 ·simp only [Fm.op];omega
 ·simp only [Fm.op];omega
 ·simp only [Fm.op];omega
 ·simp only [Fm.op];unfold bin at e;omega
theorem tC : ∀ fs : List Fm,bW fs = true → fs.length = 0 ∨ ∃ z,(bJ fs)[0]? = some (.val z) ∧ z ≠ .int .u8 0 ∧ z ≠ str [] ∧ z ≠ .slice none 0 0
 | [],_=>.inl rfl
 | .mk o n az sub :: fs,h=>by
  simp only [bW,Bool.and_eq_true] at h
  have:=Fm.ok_pos h.1
  exact .inr ⟨.int .u8 o,rfl,by simpa [Fm.op] using this,by simp [str],by simp⟩
mutual
theorem Fm.ds_live : ∀ f : Fm,f.ok = true → hZ f.ds
 | .mk o n ts fs,h=>by
  have k : bW fs = true:=by unfold Fm.ok at h;simp only [Bool.and_eq_true] at h;exact h.2
  exact ⟨trivial,trivial,⟨oU ts,kJ ts⟩,⟨tC fs k,mM fs k⟩,trivial⟩
theorem mM : ∀ fs : List Fm,bW fs = true → hZ (bJ fs)
 | [],_=>trivial
 | f :: fs,h=>by
  simp only [bW,Bool.and_eq_true] at h
  exact (Fm.ds_live f h.1).append (mM fs h.2)
end
section
variable {W W' : World} {g : Nat}
mutual
theorem At.off (hk : ∀ (a : Addr) v,a.block ≠ g → W.cell? a = some v → W'.cell? a = some v) (h2 : ∀ off v,W.cell? ⟨g,off,none⟩ = some v → v = .int .u8 0 ∨ v = str [] ∨ v = .slice none 0 0) : ∀ (d : D) (u : Value),d.live → At W d u → At W' d u
 | .val v,u,_,h=>h
 | .sl size n ds,u,hw,h=>by
  obtain ⟨a,cap,h1,h2',h3,h4,h5⟩:=h
  refine ⟨a,cap,h1,h2',h3,h4, ?_⟩
  rcases h5 with h5 | ⟨b,off,e,h5⟩
  ·exact .inl h5
  ·rcases hw.1 with h0 | ⟨z,hz,z1,z2,z3⟩
   ·exact .inl h0
   ·have hne : b ≠ g:=by
     rintro rfl
     obtain ⟨u,hu,hu2⟩:=h5.get 0 _ hz
     have e2 : u = z:=hu2
     subst e2
     rcases h2 _ _ hu with h | h | h
     ·exact z1 h
     ·exact z2 h
     ·exact z3 h
    exact .inr ⟨b,off,e,fU.off hk h2 b hne off ds hw.2 h5⟩
theorem fU.off (hk : ∀ (a : Addr) v,a.block ≠ g → W.cell? a = some v → W'.cell? a = some v) (h2 : ∀ off v,W.cell? ⟨g,off,none⟩ = some v → v = .int .u8 0 ∨ v = str [] ∨ v = .slice none 0 0) (b : Nat) (hne : b ≠ g) : ∀ (off : Nat) (ds : List D),hZ ds → fU W b off ds → fU W' b off ds
 | _,[],_,_=>trivial
 | off,d :: ds,hw,h=>by
  obtain ⟨⟨u,h1,h3⟩,h4⟩:=h
  exact ⟨⟨u,hk _ _ hne h1,At.off hk h2 d u hw.1 h3⟩,fU.off hk h2 b hne (off + 1) ds hw.2 h4⟩
end
end
end Ly
