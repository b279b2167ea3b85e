/- lyceumkit: KeptFunc, KeptFuncs, SameModel, KeptModel say true of what was lent and left alone. Conditions: none but those of each statement. -/
import Derived.Test.YtcandidgaegghaaGreatDoorCpZ
import Derived.Test.YtcandidgaegghaaGreatDoorMdFZ
import Derived.Test.YtcandidgaegghaaGreatDoorRightZ
import Derived.Test.YtcandidgaegghaaGreatDoorPlCZ
import Derived.Deep.DeepCutAuto
set_option maxRecDepth 10000
set_option linter.unusedSimpArgs false
set_option linter.unusedVariables false
namespace Go.Proofs.YtcandidgaegghaaGreatDoor
open Go Go.RowKit Go.Sort Ly
set_option maxHeartbeats 4000000
theorem keptFunc_c (t : Fu) (u : Value) (a : Option Addr) (k c : Nat) (w : World) (hu : cQ w 1 (inV t.value) (marksOf kO 12) t.value.length u) (hy : aM w 1 (inV t.value) t.value.length (.slice a k c)) :
  Calls Tryz.prog 156 #[.agg #[str t.name,.int .i64 t.args,u],.agg #[str t.name,.int .i64 t.args,.slice a k c]] w (Rt (.bool true) w):=by
 obtain ⟨x,xc,rfl⟩:=hu.flat.slice
 have HB : Hid (Below w.heap.size w ((w.alloc (.cells #[str t.name,.int .i64 t.args,.slice x t.value.length xc] 121)).alloc (.cells #[str t.name,.int .i64 t.args,.slice a k c] 121))):=bnew.alloc (by simp) _
 have G0 : Hid (((w.alloc (.cells #[str t.name,.int .i64 t.args,.slice x t.value.length xc] 121)).alloc (.cells #[str t.name,.int .i64 t.args,.slice a k c] 121)).heap[w.heap.size]? = some (.cells #[str t.name,.int .i64 t.args,.slice x t.value.length xc] 121 (0,0))):=kc bnew (heap_alloc_new w _)
 have G1 : Hid (((w.alloc (.cells #[str t.name,.int .i64 t.args,.slice x t.value.length xc] 121)).alloc (.cells #[str t.name,.int .i64 t.args,.slice a k c] 121)).heap[w.heap.size + 1]? = some (.cells #[str t.name,.int .i64 t.args,.slice a k c] 121 (0,0))):=by
  have:=heap_alloc_new (w.alloc (.cells #[str t.name,.int .i64 t.args,.slice x t.value.length xc] 121)) (.cells #[str t.name,.int .i64 t.args,.slice a k c] 121)
  rwa [World.size_alloc] at this
 have R1 : Hid (∀ W,Below w.heap.size w W → Calls Tryz.prog 157 #[.agg #[str t.name,.int .i64 t.args,.slice x t.value.length xc],.agg #[str t.name,.int .i64 t.args,.slice a k c]] W (Rt (.bool true) W)):=fun W hW=>lW t _ _ _ _ _ _ W (hu.flat.keep (aC hW)) (hy.keep (aC hW))
 have R2 : Hid (∀ W,Below w.heap.size w W → Calls Tryz.prog 77 #[.slice x t.value.length xc,.slice a k c] W (Rt (.bool true) W)):=fun W hW=>rQ t.value _ _ _ _ W (hu.keep (aC hW)) (hy.keep (aC hW))
 generalize t.value.length = n at *
 clear hu hy
 go_enter Tryz.func156,Tryz.ntmps156
 go_wp2_with (first
  | (go_at_call 157;refine (R1.out _ HB.out).mono ?_;rintro e w1 ⟨rfl,b1⟩;have B1:=Hd (aA HB.out b1);have E0:=Hd (kc b1 G0.out);have E1:=Hd (kc b1 G1.out);clear b1;obtain ⟨c0,c1,c2,f0,f1,f2⟩:=gZ E0.out;obtain ⟨d0,d1,d2,h0,h1,h2⟩:=gZ E1.out)
  | (go_at_call 77;refine (R2.out _ B1.out).mono ?_;rintro e w2 ⟨rfl,b2⟩;have B2:=Hd (aA B1.out b2);clear b2))
 go_ret
 exact ⟨rfl,B2.out⟩
theorem keptFuncs_c (l : List Fu) (u : Value) (a : Option Addr) (k c : Nat) (w : World) (hu : iX w l u) (hy : fZ w l (.slice a k c)) :
  Calls Tryz.prog 79 #[u,.slice a k c] w (Rt (.bool true) w):=by
 have hk:=hy.len
 obtain ⟨b,cap,zs,rfl,e1,e2,e4,e3⟩:=id hu
 have L1:=Hd hk.1
 have ZL:=Hd e3.len
 have HC:=Hd e3
 have HR:=Hd e4
 have HY:=Hd hy
 have hcap : k + 12 ≤ cap:=by rw [hk.1];exact e1
 have hmax : cap ≤ 9223372036854775807:=by have:=le63 e2;omega
 rw [← hk.1]
 clear hk hu hy e1 e2 e3 e4
 go_enter Tryz.func79,Tryz.ntmps79
 go_wp2_with fail
 go_loopw [6] (fun i wr=>∃ j : Nat,j ≤ k + 12 ∧ i = .int .i64 j ∧ Hid (Below w.heap.size w wr)) (fun i _=>k + 12 - (intOf i).toNat)
 case atStart=>exact ⟨0,Nat.zero_le _,rfl,Below.refl _ _⟩
 case round =>
  obtain ⟨j,hj,rfl,hs⟩:=hrel
  by_cases hlt : j < k
  ·obtain ⟨T,hT⟩:=aH (l:=l) (j:=j) (by rw [← L1.out];exact hlt)
   obtain ⟨bb,off,rfl,hc⟩:=HY.out.get (bG hT)
   obtain ⟨y0,y1,y2,q0,q1,q2,hy⟩:=hc j _ hT
   obtain ⟨v,e0,e1,e2,hl⟩:=HC.out.get hT
   obtain ⟨b',cap',rfl,-⟩:=id hl
   have hK:=aC hs.out
   have c0:=cell_regrown (hK _ _ (iL HR.out e0));have c1:=cell_regrown (hK _ _ (iL HR.out e1));have c2:=cell_regrown (hK _ _ (iL HR.out e2))
   have d0:=cell_regrown (hK _ _ q0);have d1:=cell_regrown (hK _ _ q1);have d2:=cell_regrown (hK _ _ q2)
   have cK : Hid (∀ d os,Calls Tryz.prog 156 #[.agg #[str T.name,.int .i64 T.args,.slice (some ⟨b',0,none⟩) T.value.length cap'],.agg #[str T.name,.int .i64 T.args,.slice y0 y1 y2]] (grow (redrawn wr d) os) fun e w''=>e = .returned (.bool true) ∧ ∃ p : Regrown,w'' = grow (redrawn wr p.d) p.os):=fun d os =>
    have K : bI w (grow (redrawn wr d) os):=hK.trans (aC (below_regrown wr d os))
    Calls.regrown_of (keptFunc_c T _ _ _ _ _ (hl.keep K) (hy.keep K))
   have g1 : decide ((j : Int) < (k : Int)) = true:=by simp;omega
   have g2 : decide (k ≤ j) = false:=by simp;omega
   generalize T.value.length = n at *
   clear hT hK hc hy hl e0 e1 e2
   go_wp2_with fail
   refine wqb ?_
   repeat (go_big_quiet_step (first | (go_at_call 156;exact cK.out _ _)))
   refine wpQuiet_nil (qe fun wq WQ=>?_)
   go_wp2_with fail
   go_roundw
   case rel=>exact ⟨j + 1,by omega,by go_num,aA hs.out WQ.out⟩
   case measure=>simp [intOf];omega
  ·by_cases hlt2 : j < k + 12
   ·obtain ⟨p,hp⟩ : ∃ p,j = k + p:=⟨j - k,by omega⟩
    have hp12 : p < 12:=by omega
    have hK:=aC hs.out
    have c0 : wr.cell? ⟨b,j * 3,none⟩ = some (str (cX p)):=by
     have:=hK _ _ (iM HR.out ZL.out (fun _=>rfl) hp12 (show 0 < 3 by decide) (u:=str (cX p)) rfl)
     rw [← L1.out,← hp] at this;exact this
    have c1 : wr.cell? ⟨b,j * 3 + 1,none⟩ = some (.int .i64 0):=by
     have:=hK _ _ (iM HR.out ZL.out (fun _=>rfl) hp12 (show 1 < 3 by decide) (u:=.int .i64 0) rfl)
     rw [← L1.out,← hp] at this;exact this
    have c2 : wr.cell? ⟨b,j * 3 + 2,none⟩ = some (.slice none 0 0):=by
     have:=hK _ _ (iM HR.out ZL.out (fun _=>rfl) hp12 (show 2 < 3 by decide) (u:=.slice none 0 0) rfl)
     rw [← L1.out,← hp] at this;exact this
    have c0:=cell_regrown c0;have c1:=cell_regrown c1;have c2:=cell_regrown c2
    have cM : Hid (∀ d os,Calls Tryz.prog 139 #[.int .i64 1,.int .i64 p] (grow (redrawn wr d) os) fun e w''=>e = .returned (.agg #[str (cX p),.int .i64 0,.slice none 0 0]) ∧ ∃ q : Regrown,w'' = grow (redrawn wr q.d) q.os):=fun d os =>
     Calls.regrown_of (rV p hp12 _)
    have cS : Hid (∀ d os,Calls Tryz.prog 157 #[.agg #[str (cX p),.int .i64 0,.slice none 0 0],.agg #[str (cX p),.int .i64 0,.slice none 0 0]] (grow (redrawn wr d) os) fun e w''=>e = .returned (.bool true) ∧ ∃ q : Regrown,w'' = grow (redrawn wr q.d) q.os):=fun d os =>
     Calls.regrown_of (lW ⟨cX p,0,[]⟩ none 0 0 none 0 0 _ ⟨_,_,rfl,Nat.le_refl _,Nat.zero_le _,rfl,.inl rfl⟩ ⟨_,_,rfl,Nat.le_refl _,Nat.zero_le _,rfl,.inl rfl⟩)
    have g1 : decide ((j : Int) < (k : Int)) = false:=by simp;omega
    have g2 : decide (k ≤ j) = true:=by simp;omega
    have g3 : (j : Int) - (k : Int) = p:=by omega
    generalize cX p = M at *
    clear hK hp
    go_wp2_with fail
    refine wqb ?_
    repeat (go_big_quiet_step (first | (go_at_call 139;exact cM.out _ _) | (go_at_call 157;exact cS.out _ _)))
    refine wpQuiet_nil (qe fun wq WQ=>?_)
    go_wp2_with fail
    go_roundw
    case rel=>exact ⟨j + 1,by omega,by go_num,aA hs.out WQ.out⟩
    case measure=>simp [intOf];omega
   ·go_wp2_with fail
    go_ret
    exact ⟨rfl,hs.out⟩
theorem sameModel_yes (m : Md) (ra fa ga ba ra' fa' ga' ba' : Option Addr) (rn rc fn fc gn gc bn bc rn' rc' fn' fc' gn' gc' bn' bc' : Nat) (w : World) (hx : MdAt w m ra rn rc fa fn fc ga gn gc ba bn bc) (hy : MdAt w m ra' rn' rc' fa' fn' fc' ga' gn' gc' ba' bn' bc') :
  Calls Tryz.prog 76 #[mdV m ra rn rc fa fn fc ga gn gc ba bn bc,mdV m ra' rn' rc' fa' fn' fc' ga' gn' gc' ba' bn' bc'] w (Rt (.bool true) w):=by
 have HB : Hid (Below w.heap.size w ((w.alloc (.cells #[.int .u8 m.kind,.int .i64 m.size,.slice ra rn rc,.int .i64 m.loop,.slice fa fn fc,.slice ga gn gc,.slice ba bn bc] 34)).alloc (.cells #[.int .u8 m.kind,.int .i64 m.size,.slice ra' rn' rc',.int .i64 m.loop,.slice fa' fn' fc',.slice ga' gn' gc',.slice ba' bn' bc'] 34))):=bnew.alloc (by simp) _
 have G0 : Hid (((w.alloc (.cells #[.int .u8 m.kind,.int .i64 m.size,.slice ra rn rc,.int .i64 m.loop,.slice fa fn fc,.slice ga gn gc,.slice ba bn bc] 34)).alloc (.cells #[.int .u8 m.kind,.int .i64 m.size,.slice ra' rn' rc',.int .i64 m.loop,.slice fa' fn' fc',.slice ga' gn' gc',.slice ba' bn' bc'] 34)).heap[w.heap.size]? = some (.cells #[.int .u8 m.kind,.int .i64 m.size,.slice ra rn rc,.int .i64 m.loop,.slice fa fn fc,.slice ga gn gc,.slice ba bn bc] 34 (0,0))):=kc bnew (heap_alloc_new w _)
 have G1 : Hid (((w.alloc (.cells #[.int .u8 m.kind,.int .i64 m.size,.slice ra rn rc,.int .i64 m.loop,.slice fa fn fc,.slice ga gn gc,.slice ba bn bc] 34)).alloc (.cells #[.int .u8 m.kind,.int .i64 m.size,.slice ra' rn' rc',.int .i64 m.loop,.slice fa' fn' fc',.slice ga' gn' gc',.slice ba' bn' bc'] 34)).heap[w.heap.size + 1]? = some (.cells #[.int .u8 m.kind,.int .i64 m.size,.slice ra' rn' rc',.int .i64 m.loop,.slice fa' fn' fc',.slice ga' gn' gc',.slice ba' bn' bc'] 34 (0,0))):=by
  have:=heap_alloc_new (w.alloc (.cells #[.int .u8 m.kind,.int .i64 m.size,.slice ra rn rc,.int .i64 m.loop,.slice fa fn fc,.slice ga gn gc,.slice ba bn bc] 34)) (.cells #[.int .u8 m.kind,.int .i64 m.size,.slice ra' rn' rc',.int .i64 m.loop,.slice fa' fn' fc',.slice ga' gn' gc',.slice ba' bn' bc'] 34)
  rwa [World.size_alloc] at this
 have R1 : Hid (∀ W,Below w.heap.size w W → Calls Tryz.prog 152 #[.slice ra rn rc,.slice ra' rn' rc'] W (Rt (.bool true) W)):=fun W hW=>pJ _ _ _ _ _ _ _ W (hx.rel.keep (aC hW)) (hy.rel.keep (aC hW))
 have R2 : Hid (∀ W,Below w.heap.size w W → Calls Tryz.prog 153 #[.slice fa fn fc,.slice fa' fn' fc'] W (Rt (.bool true) W)):=fun W hW=>sameFacts_yes _ _ _ _ _ _ _ W (hx.facts.keep (aC hW)) (hy.facts.keep (aC hW))
 have R3 : Hid (∀ W,Below w.heap.size w W → Calls Tryz.prog 154 #[.slice ga gn gc,.slice ga' gn' gc'] W (Rt (.bool true) W)):=fun W hW=>sameFuncs_yes _ _ _ _ _ _ _ W (hx.funcs.keep (aC hW)) (hy.funcs.keep (aC hW))
 have R4 : Hid (∀ W,Below w.heap.size w W → Calls Tryz.prog 155 #[.slice ba bn bc,.slice ba' bn' bc'] W (Rt (.bool true) W)):=fun W hW=>sameBinds_yes _ _ _ _ _ _ _ W (hx.binds.keep (aC hW)) (hy.binds.keep (aC hW))
 clear hx hy
 go_enter Tryz.func76,Tryz.ntmps76
 go_wp2_with (first
  | (go_at_call 152;refine (R1.out _ HB.out).mono ?_;rintro e w1 ⟨rfl,b1⟩;have B1:=Hd (aA HB.out b1);have E10:=Hd (kc b1 G0.out);have E11:=Hd (kc b1 G1.out);clear b1;obtain ⟨⟨c0,c1,c2,c3,c4,c5,c6⟩,-⟩:=aK E10.out;obtain ⟨⟨d0,d1,d2,d3,d4,d5,d6⟩,-⟩:=aK E11.out)
  | (go_at_call 153;refine (R2.out _ B1.out).mono ?_;rintro e w2 ⟨rfl,b2⟩;have B2:=Hd (aA B1.out b2);have E20:=Hd (kc b2 E10.out);have E21:=Hd (kc b2 E11.out);clear b2;clear c0 c1 c2 c3 c4 c5 c6 d0 d1 d2 d3 d4 d5 d6;obtain ⟨⟨c0,c1,c2,c3,c4,c5,c6⟩,-⟩:=aK E20.out;obtain ⟨⟨d0,d1,d2,d3,d4,d5,d6⟩,-⟩:=aK E21.out)
  | (go_at_call 154;refine (R3.out _ B2.out).mono ?_;rintro e w3 ⟨rfl,b3⟩;have B3:=Hd (aA B2.out b3);have E30:=Hd (kc b3 E20.out);have E31:=Hd (kc b3 E21.out);clear b3;clear c0 c1 c2 c3 c4 c5 c6 d0 d1 d2 d3 d4 d5 d6;obtain ⟨⟨c0,c1,c2,c3,c4,c5,c6⟩,-⟩:=aK E30.out;obtain ⟨⟨d0,d1,d2,d3,d4,d5,d6⟩,-⟩:=aK E31.out)
  | (go_at_call 155;refine (R4.out _ B3.out).mono ?_;rintro e w4 ⟨rfl,b4⟩;have B4:=Hd (aA B3.out b4);clear b4))
 go_ret
 exact ⟨rfl,B4.out⟩
theorem keptModel_c (m : Md) (ra fa ga ba ra' fa' ga' ba' : Option Addr) (rn rc fn fc gn gc bn bc rn' rc' fn' fc' gn' gc' bn' bc' : Nat) (w : World) (hx : oB w m ra rn rc fa fn fc ga gn gc ba bn bc) (hy : MdAt w m ra' rn' rc' fa' fn' fc' ga' gn' gc' ba' bn' bc') :
  Calls Tryz.prog 18 #[mdV m ra rn rc fa fn fc ga gn gc ba bn bc,mdV m ra' rn' rc' fa' fn' fc' ga' gn' gc' ba' bn' bc'] w (Rt (.bool true) w):=by
 have HB : Hid (Below w.heap.size w ((w.alloc (.cells #[.int .u8 m.kind,.int .i64 m.size,.slice ra rn rc,.int .i64 m.loop,.slice fa fn fc,.slice ga gn gc,.slice ba bn bc] 34)).alloc (.cells #[.int .u8 m.kind,.int .i64 m.size,.slice ra' rn' rc',.int .i64 m.loop,.slice fa' fn' fc',.slice ga' gn' gc',.slice ba' bn' bc'] 34))):=bnew.alloc (by simp) _
 have G0 : Hid (((w.alloc (.cells #[.int .u8 m.kind,.int .i64 m.size,.slice ra rn rc,.int .i64 m.loop,.slice fa fn fc,.slice ga gn gc,.slice ba bn bc] 34)).alloc (.cells #[.int .u8 m.kind,.int .i64 m.size,.slice ra' rn' rc',.int .i64 m.loop,.slice fa' fn' fc',.slice ga' gn' gc',.slice ba' bn' bc'] 34)).heap[w.heap.size]? = some (.cells #[.int .u8 m.kind,.int .i64 m.size,.slice ra rn rc,.int .i64 m.loop,.slice fa fn fc,.slice ga gn gc,.slice ba bn bc] 34 (0,0))):=kc bnew (heap_alloc_new w _)
 have G1 : Hid (((w.alloc (.cells #[.int .u8 m.kind,.int .i64 m.size,.slice ra rn rc,.int .i64 m.loop,.slice fa fn fc,.slice ga gn gc,.slice ba bn bc] 34)).alloc (.cells #[.int .u8 m.kind,.int .i64 m.size,.slice ra' rn' rc',.int .i64 m.loop,.slice fa' fn' fc',.slice ga' gn' gc',.slice ba' bn' bc'] 34)).heap[w.heap.size + 1]? = some (.cells #[.int .u8 m.kind,.int .i64 m.size,.slice ra' rn' rc',.int .i64 m.loop,.slice fa' fn' fc',.slice ga' gn' gc',.slice ba' bn' bc'] 34 (0,0))):=by
  have:=heap_alloc_new (w.alloc (.cells #[.int .u8 m.kind,.int .i64 m.size,.slice ra rn rc,.int .i64 m.loop,.slice fa fn fc,.slice ga gn gc,.slice ba bn bc] 34)) (.cells #[.int .u8 m.kind,.int .i64 m.size,.slice ra' rn' rc',.int .i64 m.loop,.slice fa' fn' fc',.slice ga' gn' gc',.slice ba' bn' bc'] 34)
  rwa [World.size_alloc] at this
 have R1 : Hid (∀ W,Below w.heap.size w W → Calls Tryz.prog 76 #[.agg #[.int .u8 m.kind,.int .i64 m.size,.slice ra rn rc,.int .i64 m.loop,.slice fa fn fc,.slice ga gn gc,.slice ba bn bc],.agg #[.int .u8 m.kind,.int .i64 m.size,.slice ra' rn' rc',.int .i64 m.loop,.slice fa' fn' fc',.slice ga' gn' gc',.slice ba' bn' bc']] W (Rt (.bool true) W)):=fun W hW=>sameModel_yes m _ _ _ _ _ _ _ _ _ _ _ _ _ _ _ _ _ _ _ _ _ _ _ _ W (hx.at.keep (aC hW)) (hy.keep (aC hW))
 have R2 : Hid (∀ W,Below w.heap.size w W → Calls Tryz.prog 77 #[.slice ra rn rc,.slice ra' rn' rc'] W (Rt (.bool true) W)):=fun W hW=>rQ m.rel _ _ _ _ W (hx.rel.keep (aC hW)) (hy.rel.keep (aC hW))
 have R3 : Hid (∀ W,Below w.heap.size w W → Calls Tryz.prog 78 #[.slice fa fn fc,.slice fa' fn' fc'] W (Rt (.bool true) W)):=fun W hW=>keptFacts_c m.facts _ _ _ _ W (hx.facts.keep (aC hW)) (hy.facts.keep (aC hW))
 have R4 : Hid (∀ W,Below w.heap.size w W → Calls Tryz.prog 79 #[.slice ga gn gc,.slice ga' gn' gc'] W (Rt (.bool true) W)):=fun W hW=>keptFuncs_c m.funcs _ _ _ _ W (hx.funcs.keep (aC hW)) (hy.funcs.keep (aC hW))
 have R5 : Hid (∀ W,Below w.heap.size w W → Calls Tryz.prog 80 #[.slice ba bn bc,.slice ba' bn' bc'] W (Rt (.bool true) W)):=fun W hW=>keptBinds_c m.binds _ _ _ _ W (hx.binds.keep (aC hW)) (hy.binds.keep (aC hW))
 clear hx hy
 go_enter Tryz.func18,Tryz.ntmps18
 go_wp2_with (first
  | (go_at_call 76;refine (R1.out _ HB.out).mono ?_;rintro e w1 ⟨rfl,b1⟩;have B1:=Hd (aA HB.out b1);have E10:=Hd (kc b1 G0.out);have E11:=Hd (kc b1 G1.out);clear b1;obtain ⟨⟨c0,c1,c2,c3,c4,c5,c6⟩,-⟩:=aK E10.out;obtain ⟨⟨d0,d1,d2,d3,d4,d5,d6⟩,-⟩:=aK E11.out)
  | (go_at_call 77;refine (R2.out _ B1.out).mono ?_;rintro e w2 ⟨rfl,b2⟩;have B2:=Hd (aA B1.out b2);have E20:=Hd (kc b2 E10.out);have E21:=Hd (kc b2 E11.out);clear b2;clear c0 c1 c2 c3 c4 c5 c6 d0 d1 d2 d3 d4 d5 d6;obtain ⟨⟨c0,c1,c2,c3,c4,c5,c6⟩,-⟩:=aK E20.out;obtain ⟨⟨d0,d1,d2,d3,d4,d5,d6⟩,-⟩:=aK E21.out)
  | (go_at_call 78;refine (R3.out _ B2.out).mono ?_;rintro e w3 ⟨rfl,b3⟩;have B3:=Hd (aA B2.out b3);have E30:=Hd (kc b3 E20.out);have E31:=Hd (kc b3 E21.out);clear b3;clear c0 c1 c2 c3 c4 c5 c6 d0 d1 d2 d3 d4 d5 d6;obtain ⟨⟨c0,c1,c2,c3,c4,c5,c6⟩,-⟩:=aK E30.out;obtain ⟨⟨d0,d1,d2,d3,d4,d5,d6⟩,-⟩:=aK E31.out)
  | (go_at_call 79;refine (R4.out _ B3.out).mono ?_;rintro e w4 ⟨rfl,b4⟩;have B4:=Hd (aA B3.out b4);have E40:=Hd (kc b4 E30.out);have E41:=Hd (kc b4 E31.out);clear b4;clear c0 c1 c2 c3 c4 c5 c6 d0 d1 d2 d3 d4 d5 d6;obtain ⟨⟨c0,c1,c2,c3,c4,c5,c6⟩,-⟩:=aK E40.out;obtain ⟨⟨d0,d1,d2,d3,d4,d5,d6⟩,-⟩:=aK E41.out)
  | (go_at_call 80;refine (R5.out _ B4.out).mono ?_;rintro e w5 ⟨rfl,b5⟩;have B5:=Hd (aA B4.out b5);clear b5))
 go_ret
 exact ⟨rfl,B5.out⟩
open Go Go.RowKit Ly
set_option maxHeartbeats 800000
theorem in_c (c lo hi : Int) (w : World) : Calls Tryz.prog 278 #[.int .u8 c,.int .u8 lo,.int .u8 hi] w fun e w'=>e = .returned (.bool (decide (lo ≤ c) && decide (c ≤ hi))) ∧ w = w':=by
 by_cases h1 : lo ≤ c
 ·by_cases h2 : c ≤ hi
  all_goals
   go_enter Tryz.func278,Tryz.ntmps278
   go_wp2_with fail
   go_ret
   refine ⟨?_,rfl⟩
   first | rfl | (simp_all;done) | (simp_all;omega) | (simp_all;rfl)
 ·go_enter Tryz.func278,Tryz.ntmps278
  go_wp2_with fail
  go_ret
  refine ⟨?_,rfl⟩
  first | rfl | (simp_all;done) | (simp_all;omega) | (simp_all;rfl)
end Go.Proofs.YtcandidgaegghaaGreatDoor
namespace Ly
open Go.Lib
/- Names. -/
def inR (c lo hi : Int) : Bool:=decide (lo ≤ c) && decide (c ≤ hi)
def fC (d : Bool) (c : UInt8) : Bool:=inR c.toNat 48 57 || (!d && (inR c.toNat 65 90 || inR c.toNat 97 122))
def eP (d : Bool) (s : Bs) : Bool:=(s.drop 1).all (fC d) && (decide (1 ≤ s.length) && decide (s.length ≤ 16))
theorem lettersP_digit (c : UInt8) : fC true c = digit c:=by
 rw [Bool.eq_iff_iff];simp [fC,inR,digit,UInt8.le_iff_toNat_le];omega
theorem mO (c : UInt8) : fC false c = eF c:=by
 rw [Bool.eq_iff_iff];simp [fC,inR,eF,small,eA,digit,UInt8.le_iff_toNat_le];omega
theorem mP (d : Bool) (q : UInt8 → Bool) (h : ∀ c,fC d c = q c) (c : UInt8) (r : Bs) : eP d (c :: r) = (r.all q && decide (r.length + 1 ≤ 16)):=by
 have : fC d = q:=funext h
 simp [eP,this]
theorem kD {s : Bs} (h : dZ s = true) : s = wAll ∨ s = fS ∨ s = eE ∨ s = lC ∨ s = gO ∨ s = nH:=by
 simpa [dZ,or_assoc] using h
theorem varName_ref (c : UInt8) (r : Bs) : bR (c :: r) = (eP true (c :: r) && inR c.toNat 117 122):=by
 rw [mP true digit lettersP_digit]
 have e : ((117 ≤ c && c ≤ 122 : Bool)) = inR c.toNat 117 122:=by rw [Bool.eq_iff_iff];simp [inR,UInt8.le_iff_toNat_le];omega
 have : bR (c :: r) = (decide (r.length + 1 ≤ 16) && !dZ (c :: r) && (117 ≤ c && c ≤ 122) && r.all digit):=rfl
 rw [this,e]
 cases hr : dZ (c :: r)
 ·cases decide (r.length + 1 ≤ 16) <;> cases inR c.toNat 117 122 <;> cases r.all digit <;> rfl
 ·rcases kD hr with h | h | h | h | h | h <;> cases h <;> decide
theorem funName_ref (c : UInt8) (r : Bs) (h : ¬ (c :: r = wAll ∨ c :: r = fS ∨ c :: r = eE ∨ c :: r = lC ∨ c :: r = gO)) : bZ (c :: r) = (eP false (c :: r) && inR c.toNat 97 116):=by
 rw [mP false eF mO]
 have e : ((97 ≤ c && c ≤ 116 : Bool)) = inR c.toNat 97 116:=by rw [Bool.eq_iff_iff];simp [inR,UInt8.le_iff_toNat_le];omega
 have : bZ (c :: r) = (decide (r.length + 1 ≤ 16) && !dZ (c :: r) && (97 ≤ c && c ≤ 116) && r.all eF):=rfl
 rw [this,e]
 cases hr : dZ (c :: r)
 ·cases decide (r.length + 1 ≤ 16) <;> cases inR c.toNat 97 116 <;> cases r.all eF <;> rfl
 ·rcases kD hr with h' | h' | h' | h' | h' | h'
  ·exact absurd (.inl h') h
  ·exact absurd (.inr (.inl h')) h
  ·exact absurd (.inr (.inr (.inl h'))) h
  ·exact absurd (.inr (.inr (.inr (.inl h')))) h
  ·exact absurd (.inr (.inr (.inr (.inr h')))) h
  ·cases h';decide
theorem funName_reserved {s : Bs} (h : s = wAll ∨ s = fS ∨ s = eE ∨ s = lC ∨ s = gO) : bZ s = false:=by
 rcases h with h | h | h | h | h <;> cases h <;> decide
theorem predName_ref (c : UInt8) (r : Bs) : aY (c :: r) = (eP false (c :: r) && inR c.toNat 65 90):=by
 rw [mP false eF mO]
 have e : eA c = inR c.toNat 65 90:=by rw [Bool.eq_iff_iff];simp [inR,eA,UInt8.le_iff_toNat_le];omega
 have : aY (c :: r) = (decide (r.length + 1 ≤ 16) && !dZ (c :: r) && eA c && r.all eF):=rfl
 rw [this,e]
 cases hr : dZ (c :: r)
 ·cases decide (r.length + 1 ≤ 16) <;> cases inR c.toNat 65 90 <;> cases r.all eF <;> rfl
 ·rcases kD hr with h | h | h | h | h | h <;> cases h <;> decide
end Ly
namespace Go.Proofs.YtcandidgaegghaaGreatDoor
open Go Go.RowKit Ly
set_option maxHeartbeats 1600000
theorem rL {s t : Bs} (h : ¬ s = t) : (s == t) = false:=by simpa using h
theorem in_r (c lo hi : Int) (w : World) : Calls Tryz.prog 278 #[.int .u8 c,.int .u8 lo,.int .u8 hi] w fun e w'=>e = .returned (.bool (inR c lo hi)) ∧ w = w':=in_c c lo hi w
theorem jQ (s : Bs) (d : Bool) (w : World) (hs : s.length ≤ 9223372036854775807) : Calls Tryz.prog 277 #[str s,.bool d] w fun e w'=>e = .returned (.bool (eP d s)) ∧ w = w':=by
 obtain ⟨n,hn⟩ : ∃ n,s.length = n:=⟨_,rfl⟩
 rw [hn] at hs
 have HN:=Hd hn
 go_enter Tryz.func277,Tryz.ntmps277
 go_wp2_with fail
 go_loopw [5] (fun i wr=>∃ k : Nat,1 ≤ k ∧ (k ≤ n ∨ k = 1) ∧ i = .int .i64 k ∧ w = wr ∧ Hid ((s.drop 1).all (fC d) = (s.drop k).all (fC d))) (fun i _=>n + 1 - (intOf i).toNat)
 case atStart=>exact ⟨1,Nat.le_refl _,.inr rfl,rfl,rfl,rfl⟩
 case round =>
  obtain ⟨k,hk1,hk2,rfl,rfl,hs2⟩:=hrel
  by_cases hlt : k < n
  ·have hlt' : k < s.length:=by omega
   have S:=Hd (oS (fC d) hlt')
   have hu : Hid (fC d s[k] = (inR (s[k]).toNat 48 57 || (!d && (inR (s[k]).toNat 65 90 || inR (s[k]).toNat 97 122)))):=rfl
   have R5 : Hid (∀ lo hi W,Calls Tryz.prog 278 #[.int .u8 (s[k]'hlt').toNat,.int .u8 lo,.int .u8 hi] W fun e w''=>e = .returned (.bool (inR (s[k]'hlt').toNat lo hi)) ∧ W = w''):=fun lo hi W=>in_r _ lo hi W
   generalize inR (s[k]'hlt').toNat = I at R5 hu
   generalize fC d s[k] = L at S hu
   obtain ⟨b1,h1⟩ : ∃ b,I 48 57 = b:=⟨_,rfl⟩
   obtain ⟨b2,h2⟩ : ∃ b,I 65 90 = b:=⟨_,rfl⟩
   obtain ⟨b3,h3⟩ : ∃ b,I 97 122 = b:=⟨_,rfl⟩
   have H1:=Hd h1
   have H2:=Hd h2
   have H3:=Hd h3
   have hL : Hid (L = (b1 || (!d && (b2 || b3)))):=by rw [Hid,hu.out,h1,h2,h3]
   clear h1 h2 h3 hu
   subst hn
   have ex : ((b1 = true) ∨ (b1 = false ∧ d = false ∧ b2 = true) ∨ (b1 = false ∧ d = false ∧ b2 = false ∧ b3 = true)) ∨ ((b1 = false ∧ d = true) ∨ (b1 = false ∧ d = false ∧ b2 = false ∧ b3 = false)):=by
    cases b1 <;> cases d <;> cases b2 <;> cases b3 <;> simp
   rcases ex with ex | ex
   ·rcases ex with rfl | ⟨rfl,rfl,rfl⟩ | ⟨rfl,rfl,rfl,rfl⟩
    all_goals
     go_wp2_with (go_at_call 278;refine (R5.out _ _ _).mono ?_;rintro e w1 ⟨rfl,rfl⟩;first | rw [show I 48 57 = _ from H1.out] | rw [show I 65 90 = _ from H2.out] | rw [show I 97 122 = _ from H3.out])
     go_roundw
     case rel=>exact ⟨k + 1,by omega,by omega,by go_num,trivial,by rw [hs2.out,S.out,hL.out];rfl⟩
     case measure=>simp [intOf];omega
   ·rcases ex with ⟨rfl,rfl⟩ | ⟨rfl,rfl,rfl,rfl⟩
    all_goals
     go_wp2_with (go_at_call 278;refine (R5.out _ _ _).mono ?_;rintro e w1 ⟨rfl,rfl⟩;first | rw [show I 48 57 = _ from H1.out] | rw [show I 65 90 = _ from H2.out] | rw [show I 97 122 = _ from H3.out])
     go_ret
     refine ⟨cF ?_,rfl⟩
     rw [eP,hs2.out,S.out,hL.out];rfl
  ·have hA : Hid ((s.drop 1).all (fC d) = true):=by rw [Hid,hs2.out,List.drop_of_length_le (by omega)];rfl
   have hB : eP d s = (decide (1 ≤ s.length) && decide (s.length ≤ 16)):=by rw [eP,hA.out,Bool.true_and]
   rcases (show n = 0 ∨ (1 ≤ n ∧ n ≤ 16) ∨ 16 < n by omega) with h0 | ⟨h0,h1⟩ | h0
   ·subst h0
    go_wp2_with fail
    go_ret
    exact ⟨cF (by rw [hB,HN.out];rfl),rfl⟩
   ·have d1 : (0 : Int) < n:=by omega
    go_wp2_with fail
    go_ret
    exact ⟨cF (by rw [hB,HN.out,decide_eq_true h0,decide_eq_true h1,decide_eq_true (show (n : Int) ≤ 16 by omega)];rfl),rfl⟩
   ·have d1 : (0 : Int) < n:=by omega
    have d2 : ¬ n ≤ 16:=by omega
    go_wp2_with fail
    go_ret
    exact ⟨cF (by rw [hB,HN.out,decide_eq_false d2,Bool.and_false,decide_eq_false (show ¬ (n : Int) ≤ 16 by omega)]),rfl⟩
theorem Variable2_c (s : Bs) (w : World) (hs : s.length ≤ 9223372036854775807) : Calls Tryz.prog 214 #[str s] w fun e w'=>e = .returned (.bool (bR s)) ∧ w = w':=by
 cases s with
 | nil =>
  have R : Hid (∀ W,Calls Tryz.prog 277 #[str [],.bool true] W fun e w'=>e = .returned (.bool false) ∧ W = w'):=fun W=>jQ [] true W hs
  go_enter Tryz.func214,Tryz.ntmps214
  go_wp2_with (go_at_call 277;refine (R.out _).mono ?_;rintro e w1 ⟨rfl,rfl⟩)
  go_ret
  exact ⟨rfl,rfl⟩
 | cons c r =>
  have R : Hid (∀ W,Calls Tryz.prog 277 #[str (c :: r),.bool true] W fun e w'=>e = .returned (.bool (eP true (c :: r))) ∧ W = w'):=fun W=>jQ (c :: r) true W hs
  have R5 : Hid (∀ W,Calls Tryz.prog 278 #[.int .u8 c.toNat,.int .u8 117,.int .u8 122] W fun e w''=>e = .returned (.bool (inR c.toNat 117 122)) ∧ W = w''):=fun W=>in_r _ _ _ W
  have E:=Hd (varName_ref c r)
  generalize eP true (c :: r) = B at R E
  generalize inR c.toNat 117 122 = I at R5 E
  cases B <;> cases I
  all_goals
   go_enter Tryz.func214,Tryz.ntmps214
   go_wp2_with (first
    | (go_at_call 277;refine (R.out _).mono ?_;rintro e w1 ⟨rfl,rfl⟩)
    | (go_at_call 278;refine (R5.out _).mono ?_;rintro e w1 ⟨rfl,rfl⟩))
   go_ret
   exact ⟨cF (by rw [E.out];rfl),rfl⟩
theorem jL (s : Bs) (w : World) (hs : s.length ≤ 9223372036854775807) : Calls Tryz.prog 216 #[str s] w fun e w'=>e = .returned (.bool (aY s)) ∧ w = w':=by
 cases s with
 | nil =>
  have R : Hid (∀ W,Calls Tryz.prog 277 #[str [],.bool false] W fun e w'=>e = .returned (.bool false) ∧ W = w'):=fun W=>jQ [] false W hs
  go_enter Tryz.func216,Tryz.ntmps216
  go_wp2_with (go_at_call 277;refine (R.out _).mono ?_;rintro e w1 ⟨rfl,rfl⟩)
  go_ret
  exact ⟨rfl,rfl⟩
 | cons c r =>
  have R : Hid (∀ W,Calls Tryz.prog 277 #[str (c :: r),.bool false] W fun e w'=>e = .returned (.bool (eP false (c :: r))) ∧ W = w'):=fun W=>jQ (c :: r) false W hs
  have R5 : Hid (∀ W,Calls Tryz.prog 278 #[.int .u8 c.toNat,.int .u8 65,.int .u8 90] W fun e w''=>e = .returned (.bool (inR c.toNat 65 90)) ∧ W = w''):=fun W=>in_r _ _ _ W
  have E:=Hd (predName_ref c r)
  generalize eP false (c :: r) = B at R E
  generalize inR c.toNat 65 90 = I at R5 E
  cases B <;> cases I
  all_goals
   go_enter Tryz.func216,Tryz.ntmps216
   go_wp2_with (first
    | (go_at_call 277;refine (R.out _).mono ?_;rintro e w1 ⟨rfl,rfl⟩)
    | (go_at_call 278;refine (R5.out _).mono ?_;rintro e w1 ⟨rfl,rfl⟩))
   go_ret
   exact ⟨cF (by rw [E.out];rfl),rfl⟩
theorem Function2_c (s : Bs) (w : World) (hs : s.length ≤ 9223372036854775807) : Calls Tryz.prog 215 #[str s] w fun e w'=>e = .returned (.bool (bZ s)) ∧ w = w':=by
 by_cases hr : s = wAll ∨ s = fS ∨ s = eE ∨ s = lC ∨ s = gO
 ·rw [funName_reserved hr]
  rcases hr with rfl | rfl | rfl | rfl | rfl
  all_goals
   go_enter Tryz.func215,Tryz.ntmps215
   go_wp2_with fail
   go_ret
   exact ⟨rfl,rfl⟩
 ·have e1 : (s == [97,108,108]) = false:=rL fun h=>hr (.inl h)
  have e2 : (s == [115,111,109,101]) = false:=rL fun h=>hr (.inr (.inl h))
  have e3 : (s == [102,97,108,115,101]) = false:=rL fun h=>hr (.inr (.inr (.inl h)))
  have e4 : (s == [110,101,120,116]) = false:=rL fun h=>hr (.inr (.inr (.inr (.inl h))))
  have e5 : (s == [97,108,119,97,121,115]) = false:=rL fun h=>hr (.inr (.inr (.inr (.inr h))))
  have HR:=Hd hr
  clear hr
  cases s with
  | nil =>
   clear e1 e2 e3 e4 e5
   have R : Hid (∀ W,Calls Tryz.prog 277 #[str [],.bool false] W fun e w'=>e = .returned (.bool false) ∧ W = w'):=fun W=>jQ [] false W hs
   go_enter Tryz.func215,Tryz.ntmps215
   go_wp2_with (go_at_call 277;refine (R.out _).mono ?_;rintro e w1 ⟨rfl,rfl⟩)
   go_ret
   exact ⟨rfl,rfl⟩
  | cons c r =>
   have R : Hid (∀ W,Calls Tryz.prog 277 #[str (c :: r),.bool false] W fun e w'=>e = .returned (.bool (eP false (c :: r))) ∧ W = w'):=fun W=>jQ (c :: r) false W hs
   have R5 : Hid (∀ W,Calls Tryz.prog 278 #[.int .u8 c.toNat,.int .u8 97,.int .u8 116] W fun e w''=>e = .returned (.bool (inR c.toNat 97 116)) ∧ W = w''):=fun W=>in_r _ _ _ W
   have E:=Hd (funName_ref c r HR.out)
   generalize eP false (c :: r) = B at R E
   generalize inR c.toNat 97 116 = I at R5 E
   cases B <;> cases I
   all_goals
    go_enter Tryz.func215,Tryz.ntmps215
    go_wp2_with (first
     | (go_at_call 277;refine (R.out _).mono ?_;rintro e w1 ⟨rfl,rfl⟩)
     | (go_at_call 278;refine (R5.out _).mono ?_;rintro e w1 ⟨rfl,rfl⟩))
    go_ret
    exact ⟨cF (by rw [E.out];rfl),rfl⟩
end Go.Proofs.YtcandidgaegghaaGreatDoor
