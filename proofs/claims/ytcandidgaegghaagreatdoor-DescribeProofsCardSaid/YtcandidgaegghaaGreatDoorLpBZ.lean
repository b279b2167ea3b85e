/- lyceumlaw41.small at any proof: where it is not negative the proof is small. Conditions: lists fit into memory. -/
import Derived.Test.YtcandidgaegghaaGreatDoorCpZ
import Derived.Test.YtcandidgaegghaaGreatDoorRpAZ
import Derived.Test.YtcandidgaegghaaGreatDoorRefBZ
import Derived.Test.YtcandidgaegghaaGreatDoorLnCZ
set_option maxRecDepth 10000
set_option linter.unusedSimpArgs false
set_option linter.unusedVariables false
namespace Ly
mutual
def Pf.lim : Pf → Prop
 | .mk r f _ ps ms=>(f.nodes ≤ 600 ∧ r.length ≤ 100 ∧ ms.length ≤ 10 ∧ ∀ m ∈ ms,m.length ≤ 10) ∧ lK ps
def lK : List Pf → Prop
 | []=>True
 | p :: ps=>p.lim ∧ lK ps
end
theorem rJ : ∀ l : List Pf,lK l ↔ ∀ t ∈ l,t.lim
 | []=>by simp [lK]
 | t :: ts=>by simp [lK,rJ ts]
end Ly
namespace Go.Proofs.YtcandidgaegghaaGreatDoor
open Go Go.RowKit Ly
set_option maxHeartbeats 4000000
def SmC (p : Pf) : Prop:=∀ (w : World) (left : Int) (x : Value),cU w p x → 0 ≤ left → left ≤ 1000 → Calls Tryz.prog 41 #[x,.int .i64 left] w fun e w'=>∃ z : Int,e = .returned (.int .i64 z) ∧ Below w.heap.size w w' ∧ -1 ≤ z ∧ z ≤ left ∧ Hid (0 ≤ z → p.lim ∧ (p.steps : Int) + z ≤ left)
theorem smallP_step (r : Bs) (f : Fm) (lb : Int) (ps : List Pf) (ms : List (List Int)) (hh : ∀ p ∈ ps,SmC p) : SmC (.mk r f lb ps ms):=by
 intro w left x hx hl0 hl1
 obtain ⟨a,k,c,a',m,d,s,sn,sc,q,qn,qc,rfl,h1,h2,h3,h4⟩:=hx
 simp only [Pf.rule,Pf.form,Pf.label,Pf.sub,Pf.marks] at *
 have hs:=h3.len
 have hq:=h4.len
 have hsl : sn ≤ 9223372036854775807:=by have:=le63 hs.2.2;omega
 have hql : qn ≤ 9223372036854775807:=by have:=le63 hq.2.2;omega
 have L3:=Hd hs.1
 have L4:=Hd hq.1
 have H3:=Hd h3
 have H4:=Hd h4
 have H:=Hd hh
 have B0 : Hid (Below w.heap.size w ((w.alloc (.cells #[str r,.int .u8 f.op,str f.name,.slice a k c,.slice a' m d,.int .i64 lb,.slice s sn sc,.slice q qn qc] 53)).alloc (.cells #[.int .u8 f.op,str f.name,.slice a k c,.slice a' m d] 25))):=bnew.alloc (by simp) _
 have R0 : Hid (((w.alloc (.cells #[str r,.int .u8 f.op,str f.name,.slice a k c,.slice a' m d,.int .i64 lb,.slice s sn sc,.slice q qn qc] 53)).alloc (.cells #[.int .u8 f.op,str f.name,.slice a k c,.slice a' m d] 25)).heap[w.heap.size]? = some (.cells #[str r,.int .u8 f.op,str f.name,.slice a k c,.slice a' m d,.int .i64 lb,.slice s sn sc,.slice q qn qc] 53 (0,0))):=kc bnew (heap_alloc_new w _)
 obtain ⟨fw,hfw⟩ : ∃ fw,decide (f.nodes ≤ 600) = fw:=⟨_,rfl⟩
 have FEW : Hid (Calls Tryz.prog 12 #[.slice (some ⟨w.heap.size + 1,0,none⟩) 1 1] ((w.alloc (.cells #[str r,.int .u8 f.op,str f.name,.slice a k c,.slice a' m d,.int .i64 lb,.slice s sn sc,.slice q qn qc] 53)).alloc (.cells #[.int .u8 f.op,str f.name,.slice a k c,.slice a' m d] 25)) fun e w'=>e = .returned (.bool fw) ∧ Below ((w.alloc (.cells #[str r,.int .u8 f.op,str f.name,.slice a k c,.slice a' m d,.int .i64 lb,.slice s sn sc,.slice q qn qc] 53)).alloc (.cells #[.int .u8 f.op,str f.name,.slice a k c,.slice a' m d] 25)).heap.size ((w.alloc (.cells #[str r,.int .u8 f.op,str f.name,.slice a k c,.slice a' m d,.int .i64 lb,.slice s sn sc,.slice q qn qc] 53)).alloc (.cells #[.int .u8 f.op,str f.name,.slice a k c,.slice a' m d] 25)) w'):=by
  have:=few_c [f] (some ⟨w.heap.size + 1,0,none⟩) 1 1 ((w.alloc (.cells #[str r,.int .u8 f.op,str f.name,.slice a k c,.slice a' m d,.int .i64 lb,.slice s sn sc,.slice q qn qc] 53)).alloc (.cells #[.int .u8 f.op,str f.name,.slice a k c,.slice a' m d] 25)) (fms_one (f:=f) (a:=a) (n:=k) (c:=c) (a':=a') (m:=m) (d:=d) ⟨by simp [go_sem],by simp [go_sem],by simp [go_sem],by simp [go_sem],h1.keep (iJ _ _ _),h2.keep (iJ _ _ _)⟩)
  have e : aK [f] = f.nodes:=by simp [aK]
  rw [e,hfw] at this
  exact this
 have NG : Hid (∀ p : Prop,(0 : Int) ≤ -1 → p):=fun p h=>absurd h (by decide)
 clear hs hq h1 h2 h3 h4 hh
 have rl : ∀ n : Nat,n = r.length → n ≤ 9223372036854775807 ∨ 100 < n:=fun n _=>by omega
 cases fw
 ·clear hfw
  go_enter Tryz.func41,Tryz.ntmps41
  go_wp2_with (go_at_call 12;refine FEW.out.mono ?_;rintro e w1 ⟨rfl,v1⟩;have B1:=Hd (aB B0.out v1);clear v1)
  go_ret
  exact ⟨-1,rfl,B1.out,by omega,by omega,fun h=>absurd h (by decide)⟩
 have hn : f.nodes ≤ 600:=of_decide_eq_true hfw
 by_cases hr : 100 < r.length
 ·have g1 : decide ((100 : Int) < (r.length : Int)) = true:=by simp;omega
  clear hfw
  go_enter Tryz.func41,Tryz.ntmps41
  go_wp2_with (go_at_call 12;refine FEW.out.mono ?_;rintro e w1 ⟨rfl,v1⟩;have B1:=Hd (aB B0.out v1);have R1:=Hd (kc v1 R0.out);clear v1;obtain ⟨c0,c1,c2,c3,c4,c5,c6,c7⟩:=row53' R1.out)
  go_ret
  exact ⟨-1,rfl,B1.out,by omega,by omega,fun h=>absurd h (by decide)⟩
 have g1 : decide ((100 : Int) < (r.length : Int)) = false:=by simp;omega
 by_cases hq10 : 10 < qn
 ·have g2 : decide ((10 : Int) < (qn : Int)) = true:=by simp;omega
  clear hfw
  go_enter Tryz.func41,Tryz.ntmps41
  go_wp2_with (go_at_call 12;refine FEW.out.mono ?_;rintro e w1 ⟨rfl,v1⟩;have B1:=Hd (aB B0.out v1);have R1:=Hd (kc v1 R0.out);clear v1;obtain ⟨c0,c1,c2,c3,c4,c5,c6,c7⟩:=row53' R1.out)
  go_ret
  exact ⟨-1,rfl,B1.out,by omega,by omega,fun h=>absurd h (by decide)⟩
 have g2 : decide ((10 : Int) < (qn : Int)) = false:=by simp;omega
 clear hfw
 go_enter Tryz.func41,Tryz.ntmps41
 go_wp2_with (go_at_call 12;refine FEW.out.mono ?_;rintro e w1 ⟨rfl,v1⟩;have B1:=Hd (aB B0.out v1);have R1:=Hd (kc v1 R0.out);clear v1;obtain ⟨c0,c1,c2,c3,c4,c5,c6,c7⟩:=row53' R1.out)
 clear FEW
 go_loopw [28] (fun i wr=>∃ j : Nat,j ≤ qn ∧ i = .int .i64 j ∧ w1 = wr ∧ Hid (∀ (i : Nat) (l : List Int),i < j → ms[i]? = some l → l.length ≤ 10)) (fun i _=>qn - (intOf i).toNat)
 case atStart=>exact ⟨0,Nat.zero_le _,rfl,rfl,fun i l hi _=>by omega⟩
 case round =>
  obtain ⟨j,hj,rfl,rfl,hA⟩:=hrel
  by_cases hlt : j < qn
  ·obtain ⟨l,hl⟩:=aF (l:=ms) (j:=j) (by rw [← L4.out];exact hlt)
   obtain ⟨mb,mo,rfl,hcm⟩:=H4.out.get (aJ hl)
   obtain ⟨y,yn,yc,ck,hy⟩:=hcm j l hl
   have e0:=aA B1.out _ _ ck
   have YL:=hy.len
   have y63 : yn ≤ 9223372036854775807:=by have:=le63 YL.2.2;omega
   by_cases y10 : 10 < yn
   ·have g5 : decide ((10 : Int) < (yn : Int)) = true:=by simp;omega
    clear hcm hl hA hy YL
    go_wp2_with fail
    go_ret
    exact ⟨-1,rfl,B1.out,by omega,by omega,fun h=>absurd h (by decide)⟩
   ·have g5 : decide ((10 : Int) < (yn : Int)) = false:=by simp;omega
    have hA' : Hid (∀ (i : Nat) (l : List Int),i < j + 1 → ms[i]? = some l → l.length ≤ 10):=fun i l' hi hl'=>by
     by_cases e : i = j
     ·subst e;rw [hl] at hl';cases hl';have:=YL.1;omega
     ·exact hA.out i l' (by omega) hl'
    clear hcm hl hA hy YL
    go_wp2_with fail
    go_roundw
    case rel=>exact ⟨j + 1,by omega,by go_num,trivial,hA'.out⟩
    case measure=>simp [intOf];omega
  ·have ML : Hid (ms.length ≤ 10 ∧ ∀ m ∈ ms,m.length ≤ 10):=⟨by have:=L4.out;omega,fun l hl=>by
    obtain ⟨i,hi⟩:=List.getElem?_of_mem hl
    exact hA.out i l (by have:=(List.getElem?_eq_some_iff.1 hi).1;have:=L4.out;omega) hi⟩
   clear hA
   go_wp2_with fail
   go_loopw [1,7] (fun u i wr=>∃ (j : Nat) (z : Int),j ≤ sn ∧ i = .int .i64 j ∧ u = .int .i64 z ∧ -1 ≤ z ∧ z < left ∧ Hid (Below w.heap.size w wr ∧ wr.heap[w.heap.size]? = some (.cells #[str r,.int .u8 f.op,str f.name,.slice a k c,.slice a' m d,.int .i64 lb,.slice s sn sc,.slice q qn qc] 53 (0,0)) ∧ (0 ≤ z → (∀ t ∈ ps.take j,t.lim) ∧ (aE (ps.take j) : Int) + 1 + z ≤ left))) (fun _ i _=>sn - (intOf i).toNat)
   case atStart=>exact ⟨0,left - 1,Nat.zero_le _,rfl,by go_num,by omega,by omega,B1.out,R1.out,fun _=>⟨by simp,by simp [aE];omega⟩⟩
   case round =>
    clear c0 c1 c2 c3 c4 c5 c6 c7 R1 B1
    obtain ⟨j,z,hj,rfl,rfl,hz0,hz1,hr2⟩:=hrel
    obtain ⟨c0,c1,c2,c3,c4,c5,c6,c7⟩:=row53' hr2.out.2.1
    by_cases hlt : j < sn
    ·have g3 : decide ((j : Int) < (sn : Int)) = true:=by simp;omega
     by_cases hzz : 0 ≤ z
     ·have g4 : decide (0 ≤ z) = true:=by simpa using hzz
      obtain ⟨T,hT⟩:=aF (l:=ps) (j:=j) (by rw [← L3.out];exact hlt)
      obtain ⟨bb,off,rfl,hc⟩:=H3.out.get (aJ hT)
      obtain ⟨xa,xn,xc,xb,xm,xd,xs,xsn,xsc,xq,xqn,xqc,hx⟩:=hc j _ hT
      have hK:=aA hr2.out.1
      have d0:=hK _ _ hx.c0;have d1:=hK _ _ hx.c1;have d2:=hK _ _ hx.c2;have d3:=hK _ _ hx.c3
      have d4:=hK _ _ hx.c4;have d5:=hK _ _ hx.c5;have d6:=hK _ _ hx.c6;have d7:=hK _ _ hx.c7
      have X : Hid (cU wr T (.agg #[str T.rule,.int .u8 T.form.op,str T.form.name,.slice xa xn xc,.slice xb xm xd,.int .i64 T.label,.slice xs xsn xsc,.slice xq xqn xqc])):=cU.keep ⟨_,_,_,_,_,_,_,_,_,_,_,_,rfl,hx.args,hx.parts,hx.sub,hx.marks⟩ hK
      have HM:=Hd (List.mem_of_getElem? hT)
      have N1:=Hd (jU hT)
      have TK : Hid (ps.take (j + 1) = ps.take j ++ [T]):=by show _ = _;rw [List.take_add_one,hT];rfl
      have RC:=Hd (H.out T HM.out wr z _ X.out hzz (by omega))
      have HR:=Hd hr2.out
      clear hc hx hT hK hr2
      go_wp2_with (go_at_call 41;refine RC.out.mono ?_;rintro e w3 ⟨z3,rfl,v3,y0,y1,hy3⟩;have B3:=Hd (aB HR.out.1 v3);have R3:=Hd (kc v3 HR.out.2.1);clear v3)
      go_roundw
      case rel =>
       refine ⟨j + 1,z3,by omega,by go_num,rfl,y0,by omega,B3.out,R3.out,fun h=>?_⟩
       obtain ⟨e1,e2⟩:=hy3.out h
       obtain ⟨e3,e4⟩:=HR.out.2.2 hzz
       refine ⟨fun t ht=>?_,by rw [N1.out];omega⟩
       rw [TK.out] at ht
       rcases List.mem_append.1 ht with h5 | h5
       ·exact e3 t h5
       ·simp at h5;subst h5;exact e1
      case measure=>simp [intOf];omega
     ·have g4 : decide (0 ≤ z) = false:=by simpa using hzz
      have BW:=Hd hr2.out.1
      clear hr2
      go_wp2_with fail
      go_ret
      exact ⟨z,rfl,BW.out,hz0,by omega,fun h=>by omega⟩
    ·have g3 : decide ((j : Int) < (sn : Int)) = false:=by simp;omega
     have e : ps.take j = ps:=List.take_of_length_le (by rw [← L3.out];omega)
     have HR:=hr2.out
     rw [e] at HR
     have HR2:=Hd HR
     clear hr2 HR
     go_wp2_with fail
     go_ret
     refine ⟨z,rfl,HR2.out.1,hz0,by omega,fun h=>?_⟩
     obtain ⟨e3,e4⟩:=HR2.out.2.2 h
     refine ⟨⟨⟨hn,by omega,ML.out.1,ML.out.2⟩,(rJ ps).2 e3⟩, ?_⟩
     simp only [Pf.steps];omega
mutual
theorem GJ : ∀ t : Pf,SmC t
 | .mk r f l ps ms=>smallP_step r f l ps ms (yR ps)
theorem yR : ∀ l : List Pf,∀ t ∈ l,SmC t
 | [],_,h=>by cases h
 | x :: xs,t,h=>by
  rcases List.mem_cons.1 h with e | e
  ·rw [e];exact GJ x
  ·exact yR xs t e
end
open Go Go.RowKit Ly
set_option maxHeartbeats 1600000
theorem info53m : (Tryz.prog.info? 53).map (fun i=>(i.zero,i.size,i.bytes)) = some (some (.agg #[.string ⟨#[]⟩,.int .u8 0,.string ⟨#[]⟩,.slice none 0 0,.slice none 0 0,.int .i64 0,.slice none 0 0,.slice none 0 0]),8,144):=by kernel_rfl
theorem u53m : ∃ fs,Tryz.prog.underlying 53 = some (.struct fs):=⟨_,Tryz.underlying53⟩
theorem i53m : (Tryz.prog.info? 53).map (·.size) = some 8:=by kernel_rfl
theorem IF {fn : Func} {p : Tmp} (h : fn.results = #[.cell p 53]) (tmps : Array Value) (w : World) (g : Nat) (a b c d e f x y : Value) (fr : Nat × Nat)
  (hp : tmps.getD p undef = one g) (hg : w.heap[g]? = some (.cells #[a,b,c,d,e,f,x,y] 53 fr)) : (results fn tmps).run Tryz.prog w = .ok (.agg #[a,b,c,d,e,f,x,y]) w:=by
 obtain ⟨fs,h1⟩:=u53m
 exact results_cell_row h tmps w g 53 #[a,b,c,d,e,f,x,y] fr _ hp hg h1 rfl i53m
theorem rM {w : World} {b : Nat} {x0 x1 x2 x3 x4 x5 x6 x7 : Value} (h : w.heap[b]? = some (.cells #[x0,x1,x2,x3,x4,x5,x6,x7] 53 (0,0))) :
  w.frozen? ⟨b,0,none⟩ = false ∧ w.frozen? ⟨b,1,none⟩ = false ∧ w.frozen? ⟨b,2,none⟩ = false ∧ w.frozen? ⟨b,3,none⟩ = false ∧ w.frozen? ⟨b,4,none⟩ = false ∧ w.frozen? ⟨b,5,none⟩ = false ∧ w.frozen? ⟨b,6,none⟩ = false ∧ w.frozen? ⟨b,7,none⟩ = false:=by
 refine ⟨?_, ?_, ?_, ?_, ?_, ?_, ?_, ?_⟩ <;> simp [World.frozen?,h]
theorem vH (i : Nat) (hi : i < 12) (w : World) : Calls Tryz.prog 260 #[.int .i64 1,.int .i64 i] w (Rt (.agg #[str (bD i),.int .u8 0,str [],.slice none 0 0,.slice none 0 0,.int .i64 (fL i),.slice none 0 0,.slice none 0 0]) w):=by
 have HB : Hid (Below w.heap.size w (w.alloc (.cells #[str [],.int .u8 0,str [],.slice none 0 0,.slice none 0 0,.int .i64 0,.slice none 0 0,.slice none 0 0] 53))):=bnew
 have HG:=Hd (heap_alloc_new w (.cells #[str [],.int .u8 0,str [],.slice none 0 0,.slice none 0 0,.int .i64 0,.slice none 0 0,.slice none 0 0] 53))
 have R : Hid (∀ W,Calls Tryz.prog 182 #[.int .i64 1,.int .i64 i] W (Rt (str (bD i)) W)):=fun W=>jK i hi W
 have R2 : Hid (∀ W,Calls Tryz.prog 136 #[.int .i64 1,.int .i64 i] W fun e w'=>e = .returned (.int .i64 (fL i)) ∧ w' = W):=fun W=>xV i hi W
 generalize bD i = M at R
 generalize fL i = N at R2
 go_enter Tryz.func260,Tryz.ntmps260
 go_wp2_with (first
  | (go_at_call 182;refine (R.out _).mono ?_;rintro e w1 ⟨rfl,b1⟩;have B1:=Hd (aB HB.out b1);have G1:=Hd (kc b1 HG.out);clear b1;obtain ⟨c0,c1,c2,c3,c4,c5,c6,c7⟩:=row53' G1.out;obtain ⟨f0,f1,f2,f3,f4,f5,f6,f7⟩:=rM G1.out)
  | (go_at_call 136;refine (R2.out _).mono ?_;rintro e w2 ⟨rfl,rfl⟩))
 have g1:=aC (o:=0) (u:=str M) G1.out
 have g2:=aC (o:=1) (u:=.int .u8 0) g1
 have g3:=aC (o:=2) (u:=str []) g2
 have g4:=aC (o:=3) (u:=.slice none 0 0) g3
 have g5:=aC (o:=4) (u:=.slice none 0 0) g4
 have g6:=aC (o:=5) (u:=.int .i64 N) g5
 have g7:=aC (o:=6) (u:=.slice none 0 0) g6
 have g8:=aC (o:=7) (u:=.slice none 0 0) g7
 refine bodyPost_ret (IF rfl _ _ w.heap.size _ _ _ _ _ _ _ _ (0,0) rfl g8) rfl ?_
 exact ⟨rfl,(((((((B1.out.setCell (by simp) _).setCell (by simp) _).setCell (by simp) _).setCell (by simp) _).setCell (by simp) _).setCell (by simp) _).setCell (by simp) _).setCell (by simp) _⟩
structure jB (w : World) (l : List Pf) (g k j i : Nat) (W : World) : Prop where
 own : ∃ xs,W.ownsRow g 53 8 (.slice (some ⟨g,0,none⟩) (j + i) (k + 12)) (j + i) (xs ++ marksOf jL i) ∧ PfsC (hide (fun n=>decide (n < g + 1)) W) (l.take j) xs
 bw : Below w.heap.size w W
 lt : g < W.heap.size
 ge : w.heap.size ≤ g
theorem jB.moved {w : World} {l : List Pf} {g k j i : Nat} {W W' : World} (h : jB w l g k j i W) (b : Below W.heap.size W W') : jB w l g k j i W':=by
 obtain ⟨⟨xs,h1,h2⟩,h3,h4,h5⟩:=h
 exact ⟨⟨xs,mV h1 (b.block g h4),PfsC.keep (bK fun k h _=>b.block k h) _ _ h2⟩,aB h3 b,Nat.lt_of_lt_of_le h4 b.size,h5⟩
theorem jB.put {w : World} {l : List Pf} {g k j : Nat} {W W' : World} {T : Pf} {c xs : List Value} (h2 : PfsC (hide (fun n=>decide (n < g + 1)) W) (l.take j) xs) (h3 : Below w.heap.size w W) (h4 : g < W.heap.size) (h5 : w.heap.size ≤ g) (hT : l[j]? = some T) (hc : PfL (hide (fun n=>decide (n < g + 1)) W) T c)
  (ho : W'.ownsRow g 53 8 (.slice (some ⟨g,0,none⟩) (j + 1) (k + 12)) (j + 1) (xs ++ c)) (hg : W.grownBy W' (some g)) : jB w l g k (j + 1) 0 W':=by
 have K : aR (hide (fun n=>decide (n < g + 1)) W) (hide (fun n=>decide (n < g + 1)) W'):=bK fun k h h'=>hg.block k h (by simp;omega)
 refine ⟨⟨xs ++ c,by simpa [marksOf] using ho, ?_⟩,h3.trans (below_grown hg (fun x e=>by cases e;exact h5) (Nat.le_trans h5 (Nat.le_of_lt h4))),Nat.lt_of_lt_of_le h4 hg.size,h5⟩
 have e : l.take (j + 1) = l.take j ++ [T]:=by rw [List.take_add_one,hT];rfl
 rw [e]
 exact PfsC.put (PfsC.keep K _ _ h2) (PfL.keep K _ _ hc)
theorem jB.mark {w : World} {l : List Pf} {g k i : Nat} {W W' : World} {xs : List Value} (h2 : PfsC (hide (fun n=>decide (n < g + 1)) W) (l.take k) xs) (h3 : Below w.heap.size w W) (h4 : g < W.heap.size) (h5 : w.heap.size ≤ g)
  (ho : W'.ownsRow g 53 8 (.slice (some ⟨g,0,none⟩) (k + i + 1) (k + 12)) (k + i + 1) (xs ++ marksOf jL i ++ jL i)) (hg : W.grownBy W' (some g)) : jB w l g k k (i + 1) W':=by
 have K : aR (hide (fun n=>decide (n < g + 1)) W) (hide (fun n=>decide (n < g + 1)) W'):=bK fun k h h'=>hg.block k h (by simp;omega)
 refine ⟨⟨xs, ?_,PfsC.keep K _ _ h2⟩,h3.trans (below_grown hg (fun x e=>by cases e;exact h5) (Nat.le_trans h5 (Nat.le_of_lt h4))),Nat.lt_of_lt_of_le h4 hg.size,h5⟩
 rw [kP,← List.append_assoc]
 exact ho
theorem jB.lent {w : World} {l : List Pf} {g k : Nat} {W : World} (h : jB w l g k k 12 W) (hk : k = l.length) (hm : k + 12 ≤ maxLen) : jR (hide (lo w) W) l (.slice (some ⟨g,0,none⟩) k (k + 12)):=by
 obtain ⟨⟨xs,h1,h2⟩,h3,h4,h5⟩:=h
 rw [List.take_of_length_le (by omega)] at h2
 subst hk
 refine ⟨g,_,xs,rfl,Nat.le_refl _,hm, ?_, ?_⟩
 ·intro j u hu
  have:=h1.cells (g:=g) rfl j u hu
  rw [show ((⟨g,0,none⟩ : Addr).add j) = ⟨g,j,none⟩ by simp [Addr.add];omega] at this
  rw [eZ (by simp [lo];omega)]
  exact this
 ·exact PfsC.keep (aV fun k h6 h7=>⟨by simp at h7;simp [lo];omega,rfl⟩) _ _ h2
theorem jB.new {w w1 : World} {l : List Pf} {k : Nat} (h : w1.ownsRow w.heap.size 53 8 (.slice (some ⟨w.heap.size,0,none⟩) 0 (k + 12)) 0 []) (hg : w.grownBy w1 none) : jB w l w.heap.size k 0 0 w1 :=
 ⟨⟨[],by simpa [marksOf] using h,by rw [List.take_zero,PfsC]⟩,below_grown hg (fun _ e=>by cases e) (Nat.le_refl _),(h.lt _ rfl).2,Nat.le_refl _⟩
theorem jB.first {w W : World} {l : List Pf} {g k j : Nat} (h : jB w l g k j 0 W) : ∃ xs,W.ownsRow g 53 8 (.slice (some ⟨g,0,none⟩) j (k + 12)) j xs ∧ PfsC (hide (fun n=>decide (n < g + 1)) W) (l.take j) xs:=by
 obtain ⟨xs,h1,h2⟩:=h.own
 exact ⟨xs,by simpa [marksOf] using h1,h2⟩
theorem JQ (w : World) (a b c d e f g h : Value) (t : TypeId) : ∀ (j : Nat) (u : Value),[a,b,c,d,e,f,g,h][j]? = some u → (w.alloc (.cells #[a,b,c,d,e,f,g,h] t)).cell? ((⟨w.heap.size,0,none⟩ : Addr).add j) = some u:=by
 intro j u hu
 have hg:=heap_alloc_new w (.cells #[a,b,c,d,e,f,g,h] t)
 rw [show ((⟨w.heap.size,0,none⟩ : Addr).add j) = ⟨w.heap.size,j,none⟩ by simp [Addr.add];omega,box_cell hg]
 simpa using hu
theorem NF {rv n : Bs} {v l : Int} {u u' s q : Value} (hu : u.oneCell' = true) (hu' : u'.oneCell' = true) (hs : s.oneCell' = true) (hq : q.oneCell' = true) : ∀ x ∈ [str rv,Value.int .u8 v,str n,u,u',.int .i64 l,s,q],x.oneCell' = true:=by
 intro x hx
 simp only [List.mem_cons,List.not_mem_nil,or_false] at hx
 rcases hx with rfl | rfl | rfl | rfl | rfl | rfl | rfl | rfl
 ·rfl
 ·rfl
 ·rfl
 ·exact hu
 ·exact hu'
 ·rfl
 ·exact hs
 ·exact hq
theorem tD : ∀ l : List Pf,l.length ≤ aE l
 | []=>Nat.zero_le _
 | t :: ts=>by have:=tD ts;cases t;rw [aE,Pf.steps,List.length_cons];omega
theorem pfsSteps_mem {l : List Pf} {t : Pf} (h : t ∈ l) : t.steps ≤ aE l:=by
 induction l with
 | nil=>cases h
 | cons x l ih =>
  rw [aE]
  rcases List.mem_cons.1 h with rfl | h
  ·omega
  ·have:=ih h;omega
def PlS (l : List Pf) : Prop:=∀ (w : World) (a : Option Addr) (k c : Nat),gD w l (.slice a k c) → aE l ≤ 1000 → lK l → Calls Tryz.prog 181 #[.slice a k c] w fun e w'=>∃ b cap,e = .returned (.slice (some ⟨b,0,none⟩) k cap) ∧ jR (hide (lo w) w') l (.slice (some ⟨b,0,none⟩) k cap) ∧ Below w.heap.size w w'
def PlT (t : Pf) : Prop:=∀ (w : World) (x : Value),cU w t x → t.steps ≤ 1000 → t.lim → Calls Tryz.prog 110 #[x] w fun e w'=>∃ b n cap b' n' cap' s sn sc q qn qc,e = .returned (.agg #[str t.rule,.int .u8 t.form.op,str t.form.name,.slice (some ⟨b,0,none⟩) n cap,.slice (some ⟨b',0,none⟩) n' cap',.int .i64 t.label,.slice (some ⟨s,0,none⟩) sn sc,.slice (some ⟨q,0,none⟩) qn qc]) ∧ PfL (hide (lo w) w') t [str t.rule,.int .u8 t.form.op,str t.form.name,.slice (some ⟨b,0,none⟩) n cap,.slice (some ⟨b',0,none⟩) n' cap',.int .i64 t.label,.slice (some ⟨s,0,none⟩) sn sc,.slice (some ⟨q,0,none⟩) qn qc] ∧ Below w.heap.size w w'
theorem pls_step (l : List Pf) (hh : ∀ t ∈ l,PlT t) : PlS l:=by
 intro w a k c hx hn hlim
 have hk:=hx.len
 have hlen : k ≤ 1000:=by have:=tD l;omega
 have L1:=Hd hk.1
 have H:=Hd hh
 have HX:=Hd hx
 have HN : Hid (∀ t ∈ l,t.steps ≤ 1000):=fun t ht=>Nat.le_trans (pfsSteps_mem ht) hn
 obtain ⟨i0,hi0,hz0,hs0,hb0⟩:=info_parts info53m
 have HLI : Hid (∀ t ∈ l,t.lim):=(rJ l).1 hlim
 clear hk hh hx hn hlim
 go_enter Tryz.func181,Tryz.ntmps181
 go_wp2_with (at_make;refine wpList_make_own _ rfl _ _ 50 rfl w.heap.size 53 i0 (.agg #[.string ⟨#[]⟩,.int .u8 0,.string ⟨#[]⟩,.slice none 0 0,.slice none 0 0,.int .i64 0,.slice none 0 0,.slice none 0 0]) 8 Tryz.underlying50 hi0 hz0 hs0 _ _ _ (k + 12) rfl rfl (by first | rfl | omega) (by rw [hb0];omega) (by unfold maxLen;omega) (Nat.le_refl _) ?_;intro w1 hown1 hgrow1)
 go_loopw [3,4] (fun u i wr=>∃ j : Nat,j ≤ k ∧ i = .int .i64 j ∧ u = .slice (some ⟨w.heap.size,0,none⟩) j (k + 12) ∧ Hid (jB w l w.heap.size k j 0 wr)) (fun _ i _=>k - (intOf i).toNat)
 case atStart=>exact ⟨0,Nat.zero_le _,rfl,rfl,jB.new hown1 hgrow1⟩
 case round =>
  clear hown1 hgrow1
  obtain ⟨j,hj,rfl,rfl,hs⟩:=hrel
  by_cases hlt : j < k
  ·obtain ⟨T,hT⟩:=aF (l:=l) (j:=j) (by rw [← L1.out];exact hlt)
   obtain ⟨bb,off,rfl,hc⟩:=HX.out.get (aJ hT)
   obtain ⟨y0,y1,y2,y3,y4,y5,y6,y7,y8,y9,y10,y11,hy⟩:=hc j _ hT
   have hK:=aA hs.out.bw
   have c0:=hK _ _ hy.c0;have c1:=hK _ _ hy.c1;have c2:=hK _ _ hy.c2;have c3:=hK _ _ hy.c3;have c4:=hK _ _ hy.c4;have c5:=hK _ _ hy.c5;have c6:=hK _ _ hy.c6;have c7:=hK _ _ hy.c7
   have X : Hid (cU wr T (.agg #[str T.rule,.int .u8 T.form.op,str T.form.name,.slice y0 y1 y2,.slice y3 y4 y5,.int .i64 T.label,.slice y6 y7 y8,.slice y9 y10 y11])):=⟨_,_,_,_,_,_,_,_,_,_,_,_,rfl,hy.args.keep hK,hy.parts.keep hK,hy.sub.keep hK,hy.marks.keep hK⟩
   have HT:=Hd hT
   clear hc hy hT hK
   go_wp2_with (first
    | (go_at_call 110;refine (H.out T (List.mem_of_getElem? HT.out) _ _ X.out (HN.out T (List.mem_of_getElem? HT.out)) (HLI.out T (List.mem_of_getElem? HT.out))).mono ?_;rintro e w3 ⟨b,n,cap,b',n',cap',s,sn,sc,q,qn,qc,rfl,hl,b3⟩;obtain ⟨xs,o3,t3⟩:=(hs.out.moved b3).first;have OW:=Hd o3;have TC:=Hd t3;have HL:=Hd (And.intro hl b3);clear hl b3 o3 t3)
    | (at_builtin;refine wpList_append_fits _ rfl _ _ 50 rfl w.heap.size 53 i0 8 Tryz.underlying50 hi0 hs0 w.heap.size j (k + 12) _ rfl (OW.out.alloc _) ⟨w3.heap.size,0,none⟩ 1 1 [str T.rule,.int .u8 T.form.op,str T.form.name,.slice (some ⟨b,0,none⟩) n cap,.slice (some ⟨b',0,none⟩) n' cap',.int .i64 T.label,.slice (some ⟨s,0,none⟩) sn sc,.slice (some ⟨q,0,none⟩) qn qc] rfl rfl (JQ _ _ _ _ _ _ _ _ _ _) (NF rfl rfl rfl rfl) (by omega) ?_;intro w4 hown4 hgrow4))
   go_roundw
   case rel =>
    refine ⟨j + 1,by omega,by go_num,rfl, ?_⟩
    obtain ⟨hl,b3⟩:=HL.out
    have LR:=hs.out.moved b3
    have bA : ∀ o,Below w3.heap.size w3 (w3.alloc o):=fun o=>bnew
    have e1:=LR.lt
    have e2:=LR.ge
    have e3:=hs.out.lt
    exact jB.put (PfsC.keep (bK fun i h _=>(bA _).block i h) _ _ TC.out) (aB LR.bw (bA _)) (by simp;omega) e2 HT.out
     (PfL.keep (aV fun i h1 h2=>by simp only [lo,decide_eq_false_iff_not,Nat.not_lt] at h2 ⊢;exact ⟨by omega,(bA _).block i h1⟩) _ _ hl) hown4 hgrow4
   case measure=>simp [intOf];omega
  ·have hjk : j = k:=by omega
   have LR:=Hd hs.out
   subst hjk
   clear hs H HX HN HLI
   go_wp2_with fail
   go_loopw [3,5] (fun u i wr=>∃ p : Nat,p ≤ 12 ∧ i = .int .i64 p ∧ u = .slice (some ⟨w.heap.size,0,none⟩) (j + p) (j + 12) ∧ Hid (jB w l w.heap.size j j p wr)) (fun _ i _=>12 - (intOf i).toNat)
   case atStart=>exact ⟨0,by omega,rfl,rfl,LR.out⟩
   case round =>
    clear LR
    obtain ⟨p,hp,rfl,rfl,hs⟩:=hrel
    by_cases hlt : p < 12
    ·go_wp2_with (first
      | (go_at_call 260;refine (vH p hlt _).mono ?_;rintro e w3 ⟨rfl,b3⟩;obtain ⟨xs,o3,t3⟩:=(hs.out.moved b3).own;have OW:=Hd o3;have TC:=Hd t3;have B3:=Hd b3;clear b3 o3 t3)
      | (at_builtin;refine wpList_append_fits _ rfl _ _ 50 rfl w.heap.size 53 i0 8 Tryz.underlying50 hi0 hs0 w.heap.size (j + p) (j + 12) _ rfl (OW.out.alloc _) ⟨w3.heap.size,0,none⟩ 1 1 (jL p) rfl rfl (JQ _ _ _ _ _ _ _ _ _ _) (NF rfl rfl rfl rfl) (by omega) ?_;intro w4 hown4 hgrow4))
     go_roundw
     case rel =>
      refine ⟨p + 1,by omega,by go_num,rfl, ?_⟩
      have LR:=hs.out.moved B3.out
      have bA : ∀ o,Below w3.heap.size w3 (w3.alloc o):=fun o=>bnew
      have e1:=LR.lt
      have e2:=LR.ge
      exact jB.mark (PfsC.keep (bK fun i h _=>(bA _).block i h) _ _ TC.out) (aB LR.bw (bA _)) (by simp;omega) e2 hown4 hgrow4
     case measure=>simp [intOf];omega
    ·have hp12 : p = 12:=by omega
     subst hp12
     have LE:=Hd (hs.out.lent L1.out (by unfold maxLen;omega))
     have LB:=Hd hs.out.bw
     clear hs
     go_wp2_with fail
     go_ret
     exact ⟨_,_,rfl,LE.out,LB.out⟩
end Go.Proofs.YtcandidgaegghaaGreatDoor
