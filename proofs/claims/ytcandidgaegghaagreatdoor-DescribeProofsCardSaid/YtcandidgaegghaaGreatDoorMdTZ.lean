/- lyceumkit.KeptTerm, KeptTerms: true at what has been lent and is as it was. Conditions: none but those of each statement. -/
import Derived.Test.YtcandidgaegghaaGreatDoorCpZ
import Derived.Test.YtcandidgaegghaaGreatDoorLnCZ
import Derived.Test.YtcandidgaegghaaGreatDoorSameBZ
import Derived.Test.YtcandidgaegghaaGreatDoorLpCZ
import Derived.Lib.QuietBelow
import Derived.BigQuiet
import Derived.Test.YtcandidgaegghaaGreatDoorRefDZ
import Derived.Test.YtcandidgaegghaaGreatDoorProofAZ
import Derived.Laws.Cover1
set_option maxRecDepth 10000
set_option linter.unusedSimpArgs false
set_option linter.unusedVariables false
namespace Go.Proofs.YtcandidgaegghaaGreatDoor
open Go Go.RowKit Go.Sort Ly
set_option maxHeartbeats 1600000
theorem tP (t : Tm) : t.same t = true:=(Tm.same_iff t t).2 rfl
theorem sF (t : Fm) : t.same t = true:=(Fm.same_iff t t).2 rfl
def KpS (l : List Tm) : Prop:=∀ (u : Value) (a : Option Addr) (k c : Nat) (w : World),dJ w l u → bI w l (.slice a k c) → Calls Tryz.prog 128 #[u,.slice a k c] w (Rt (.bool true) w)
def KpT (t : Tm) : Prop:=∀ (u y : Value) (w : World),dJ w t.args u → iS w t y → Calls Tryz.prog 208 #[.agg #[.bool t.v,str t.name,u],y] w (Rt (.bool true) w)
theorem kp_of (t : Tm) (h : KpS t.args) : KpT t:=by
 intro u y w hu hy
 obtain ⟨a,k,c,rfl,hy⟩:=hy
 obtain ⟨b,cap,zs,rfl,e1,e2,e3,e4⟩:=id hu
 have G0:=Hd (heap_alloc_new w (.cells #[.bool t.v,str t.name,.slice (some ⟨b,0,none⟩) t.args.length cap] 95))
 have HB : Hid (Below w.heap.size w ((w.alloc (.cells #[.bool t.v,str t.name,.slice (some ⟨b,0,none⟩) t.args.length cap] 95)).alloc (.cells #[.bool t.v,str t.name,.slice a k c] 95))):=bnew.alloc (by simp) _
 have HU:=Hd hu
 have HY:=Hd hy
 have R : Hid (∀ W,Below w.heap.size w W → Calls Tryz.prog 200 #[.agg #[.bool t.v,str t.name,.slice (some ⟨b,0,none⟩) t.args.length cap],.agg #[.bool t.v,str t.name,.slice a k c]] W (Rt (.bool true) W)):=fun W hW=>by
  have:=rE t t _ _ W ⟨_,_,_,rfl,hu.at.keep (aA hW)⟩ ⟨_,_,_,rfl,hy.keep (aA hW)⟩
  rwa [tP] at this
 have R2 : Hid (∀ W,Below w.heap.size w W → Calls Tryz.prog 128 #[.slice (some ⟨b,0,none⟩) t.args.length cap,.slice a k c] W (Rt (.bool true) W)):=fun W hW =>
  h _ a k c W (hu.keep (aA hW)) (hy.keep (aA hW))
 generalize t.args.length = n at *
 clear h hu hy e1 e2 e3 e4
 have G1 : Hid (((w.alloc (.cells #[.bool t.v,str t.name,.slice (some ⟨b,0,none⟩) n cap] 95)).alloc (.cells #[.bool t.v,str t.name,.slice a k c] 95)).heap[w.heap.size]? = some (.cells #[.bool t.v,str t.name,.slice (some ⟨b,0,none⟩) n cap] 95 (0,0))):=kc bnew G0.out
 have G2 : Hid (((w.alloc (.cells #[.bool t.v,str t.name,.slice (some ⟨b,0,none⟩) n cap] 95)).alloc (.cells #[.bool t.v,str t.name,.slice a k c] 95)).heap[w.heap.size + 1]? = some (.cells #[.bool t.v,str t.name,.slice a k c] 95 (0,0))):=by
  have:=heap_alloc_new (w.alloc (.cells #[.bool t.v,str t.name,.slice (some ⟨b,0,none⟩) n cap] 95)) (.cells #[.bool t.v,str t.name,.slice a k c] 95)
  rwa [World.size_alloc] at this
 go_enter Tryz.func208,Tryz.ntmps208
 go_wp2_with (first
  | (go_at_call 200;refine (R.out _ HB.out).mono ?_;rintro e w1 ⟨rfl,b1⟩;have B1:=Hd (aB HB.out b1);have E1:=Hd (kc b1 G1.out);have E2:=Hd (kc b1 G2.out);clear b1;obtain ⟨c0,c1,c2,f0,f1,f2⟩:=row95' E1.out;obtain ⟨d0,d1,d2,h0,h1,h2⟩:=row95' E2.out)
  | (go_at_call 128;refine (R2.out _ B1.out).mono ?_;rintro e w2 ⟨rfl,b2⟩;have B2:=Hd (aB B1.out b2);clear b2))
 go_ret
 exact ⟨rfl,B2.out⟩
theorem FD (l : List Tm) (hh : ∀ t ∈ l,KpT t) : KpS l:=by
 intro u a k c w hu hy
 have hk:=hy.len
 obtain ⟨b,cap,zs,rfl,e1,e2,e3,e4⟩:=id hu
 have L1:=Hd hk.1
 have ZL:=Hd e4.len
 have HC:=Hd e4
 have HR:=Hd e3
 have HY:=Hd hy
 have H:=Hd hh
 have hcap : k + 12 ≤ cap:=by rw [hk.1];exact e1
 have hmax : cap ≤ 9223372036854775807:=by have:=le63 e2;omega
 rw [← hk.1]
 clear hk hu hy hh e1 e2 e3 e4
 go_enter Tryz.func128,Tryz.ntmps128
 go_wp2_with fail
 go_loopw [6] (fun i wr=>∃ j : Nat,j ≤ k + 12 ∧ i = .int .i64 j ∧ Hid (Below w.heap.size w wr)) (fun i _=>k + 12 - (intOf i).toNat)
 case atStart=>exact ⟨0,Nat.zero_le _,rfl,Below.refl _ _⟩
 case round =>
  obtain ⟨j,hj,rfl,hs⟩:=hrel
  by_cases hlt : j < k
  ·obtain ⟨T,hT⟩:=aF (l:=l) (j:=j) (by rw [← L1.out];exact hlt)
   obtain ⟨bb,off,rfl,hc⟩:=HY.out.get (aJ hT)
   obtain ⟨y0,y1,y2,hy⟩:=hc j _ hT
   obtain ⟨v,z0,z1,z2,hl⟩:=HC.out.get hT
   obtain ⟨b',cap',zs',rfl,-⟩:=id hl
   have hK:=aA hs.out
   have hr : ∀ (i : Nat) (x : Value),zs[i]? = some x → wr.cell? ⟨b,i,none⟩ = some x:=fun i x h=>hK _ _ (HR.out.left i x h)
   have c0:=cell_regrown (hr _ _ z0);have c1:=cell_regrown (hr _ _ z1);have c2:=cell_regrown (hr _ _ z2)
   have d0:=cell_regrown (hK _ _ hy.c0);have d1:=cell_regrown (hK _ _ hy.c1);have d2:=cell_regrown (hK _ _ hy.c2)
   have hm:=List.mem_of_getElem? hT
   have cK : Hid (∀ d os,Calls Tryz.prog 208 #[.agg #[.bool T.v,str T.name,.slice (some ⟨b',0,none⟩) T.args.length cap'],.agg #[.bool T.v,str T.name,.slice y0 y1 y2]] (grow (redrawn wr d) os) fun e w''=>e = .returned (.bool true) ∧ ∃ p : Regrown,w'' = grow (redrawn wr p.d) p.os):=fun d os =>
    have K : aR w (grow (redrawn wr d) os):=hK.trans (aA (below_regrown wr d os))
    Calls.regrown_of (H.out T hm _ _ _ (hl.keep K) ⟨_,_,_,rfl,hy.at_.keep K⟩)
   have g1 : decide ((j : Int) < (k : Int)) = true:=by simp;omega
   have g2 : decide (k ≤ j) = false:=by simp;omega
   generalize T.args.length = n at *
   clear hc hy hT hl hK hr z0 z1 z2 hm
   go_wp2_with fail
   refine wqb ?_
   repeat (go_big_quiet_step (first | (go_at_call 208;exact cK.out _ _)))
   refine wpQuiet_nil (qe fun wq WQ=>?_)
   go_wp2_with fail
   go_roundw
   case rel=>exact ⟨j + 1,by omega,by go_num,aB hs.out WQ.out⟩
   case measure=>simp [intOf];omega
  ·by_cases hlt2 : j < k + 12
   ·obtain ⟨p,hp⟩ : ∃ p,j = k + p:=⟨j - k,by omega⟩
    have hp12 : p < 12:=by omega
    obtain ⟨z0,z1,z2⟩:=tmMarks_get hp12
    have hK:=aA hs.out
    have hr : ∀ (i : Nat) (x : Value),(gF 12)[i]? = some x → wr.cell? ⟨b,k * 3 + i,none⟩ = some x:=fun i x h=>hK _ _ (HR.out _ x (by rw [List.getElem?_append_right (by rw [ZL.out,← L1.out];omega),ZL.out,← L1.out,Nat.add_sub_cancel_left];exact h))
    have ej : j * 3 = k * 3 + p * 3:=by omega
    have c0:=cell_regrown (hr _ _ z0);have c1:=cell_regrown (hr _ _ z1);have c2:=cell_regrown (hr _ _ z2)
    rw [← Nat.add_assoc,← ej] at c1 c2
    rw [← ej] at c0
    have cM : Hid (∀ d os,Calls Tryz.prog 206 #[.int .i64 1,.int .i64 p] (grow (redrawn wr d) os) fun e w''=>e = .returned (.agg #[.bool false,str (bD p),.slice none 0 0]) ∧ ∃ q : Regrown,w'' = grow (redrawn wr q.d) q.os):=fun d os =>
     Calls.regrown_of (xU p hp12 _)
    have cS : Hid (∀ d os,Calls Tryz.prog 200 #[.agg #[.bool false,str (bD p),.slice none 0 0],.agg #[.bool false,str (bD p),.slice none 0 0]] (grow (redrawn wr d) os) fun e w''=>e = .returned (.bool true) ∧ ∃ q : Regrown,w'' = grow (redrawn wr q.d) q.os):=fun d os =>
     Calls.regrown_of (by
      have:=rE (.mk false (bD p) []) (.mk false (bD p) []) (.agg #[.bool false,str (bD p),.slice none 0 0]) (.agg #[.bool false,str (bD p),.slice none 0 0]) (grow (redrawn wr d) os) ⟨_,_,_,rfl,At.sl_nil (Nat.zero_le _)⟩ ⟨_,_,_,rfl,At.sl_nil (Nat.zero_le _)⟩
      rwa [tP] at this)
    have g1 : decide ((j : Int) < (k : Int)) = false:=by simp;omega
    have g2 : decide (k ≤ j) = true:=by simp;omega
    have g3 : (j : Int) - (k : Int) = p:=by omega
    generalize bD p = M at *
    clear hr hK z0 z1 z2 ej hp
    go_wp2_with fail
    refine wqb ?_
    repeat (go_big_quiet_step (first | (go_at_call 206;exact cM.out _ _) | (go_at_call 200;exact cS.out _ _)))
    refine wpQuiet_nil (qe fun wq WQ=>?_)
    go_wp2_with fail
    go_roundw
    case rel=>exact ⟨j + 1,by omega,by go_num,aB hs.out WQ.out⟩
    case measure=>simp [intOf];omega
   ·go_wp2_with fail
    go_ret
    exact ⟨rfl,hs.out⟩
mutual
theorem keptTerm_c : ∀ t : Tm,KpT t
 | .mk v n ts=>kp_of _ (FD ts (DM ts))
theorem DM : ∀ l : List Tm,∀ t ∈ l,KpT t
 | [],_,h=>by cases h
 | x :: xs,t,h=>by
  rcases List.mem_cons.1 h with e | e
  ·rw [e];exact keptTerm_c x
  ·exact DM xs t e
end
theorem keptTerms_c (l : List Tm) : KpS l:=FD l (DM l)
open Go Go.RowKit Go.Sort Ly
set_option maxHeartbeats 1600000
def KfS (l : List Fm) : Prop:=∀ (u : Value) (a : Option Addr) (k c : Nat) (w : World),eW w l u → cD w l (.slice a k c) → Calls Tryz.prog 129 #[u,.slice a k c] w (Rt (.bool true) w)
def KfT (t : Fm) : Prop:=∀ (u v y : Value) (w : World),dJ w t.args u → eW w t.sub v → bV w t y → Calls Tryz.prog 51 #[.agg #[.int .u8 t.op,str t.name,u,v],y] w (Rt (.bool true) w)
theorem kf_of (t : Fm) (h : KfS t.sub) : KfT t:=by
 intro u v y w hu hv hy
 obtain ⟨a,k,c,a',m,d,rfl,hy,hy'⟩:=hy
 obtain ⟨b,cap,zs,rfl,-⟩:=id hu
 obtain ⟨b',cap',zs',rfl,-⟩:=id hv
 have R : Hid (∀ W,Below w.heap.size w W → Calls Tryz.prog 44 #[.agg #[.int .u8 t.op,str t.name,.slice (some ⟨b,0,none⟩) t.args.length cap,.slice (some ⟨b',0,none⟩) t.sub.length cap'],.agg #[.int .u8 t.op,str t.name,.slice a k c,.slice a' m d]] W (Rt (.bool true) W)):=fun W hW=>by
  have:=nD t t _ _ W ⟨_,_,_,_,_,_,rfl,hu.at.keep (aA hW),hv.at.keep (aA hW)⟩ ⟨_,_,_,_,_,_,rfl,hy.keep (aA hW),hy'.keep (aA hW)⟩
  rwa [sF] at this
 have R2 : Hid (∀ W,Below w.heap.size w W → Calls Tryz.prog 128 #[.slice (some ⟨b,0,none⟩) t.args.length cap,.slice a k c] W (Rt (.bool true) W)):=fun W hW =>
  keptTerms_c _ _ a k c W (hu.keep (aA hW)) (hy.keep (aA hW))
 have R3 : Hid (∀ W,Below w.heap.size w W → Calls Tryz.prog 129 #[.slice (some ⟨b',0,none⟩) t.sub.length cap',.slice a' m d] W (Rt (.bool true) W)):=fun W hW =>
  h _ a' m d W (hv.keep (aA hW)) (hy'.keep (aA hW))
 generalize t.args.length = n at *
 generalize t.sub.length = n' at *
 clear h hu hv hy hy'
 have HB : Hid (Below w.heap.size w ((w.alloc (.cells #[.int .u8 t.op,str t.name,.slice (some ⟨b,0,none⟩) n cap,.slice (some ⟨b',0,none⟩) n' cap'] 25)).alloc (.cells #[.int .u8 t.op,str t.name,.slice a k c,.slice a' m d] 25))):=bnew.alloc (by simp) _
 have G1 : Hid (((w.alloc (.cells #[.int .u8 t.op,str t.name,.slice (some ⟨b,0,none⟩) n cap,.slice (some ⟨b',0,none⟩) n' cap'] 25)).alloc (.cells #[.int .u8 t.op,str t.name,.slice a k c,.slice a' m d] 25)).heap[w.heap.size]? = some (.cells #[.int .u8 t.op,str t.name,.slice (some ⟨b,0,none⟩) n cap,.slice (some ⟨b',0,none⟩) n' cap'] 25 (0,0))):=kc bnew (heap_alloc_new _ _)
 have G2 : Hid (((w.alloc (.cells #[.int .u8 t.op,str t.name,.slice (some ⟨b,0,none⟩) n cap,.slice (some ⟨b',0,none⟩) n' cap'] 25)).alloc (.cells #[.int .u8 t.op,str t.name,.slice a k c,.slice a' m d] 25)).heap[w.heap.size + 1]? = some (.cells #[.int .u8 t.op,str t.name,.slice a k c,.slice a' m d] 25 (0,0))):=by
  have:=heap_alloc_new (w.alloc (.cells #[.int .u8 t.op,str t.name,.slice (some ⟨b,0,none⟩) n cap,.slice (some ⟨b',0,none⟩) n' cap'] 25)) (.cells #[.int .u8 t.op,str t.name,.slice a k c,.slice a' m d] 25)
  rwa [World.size_alloc] at this
 go_enter Tryz.func51,Tryz.ntmps51
 go_wp2_with (first
  | (go_at_call 44;refine (R.out _ HB.out).mono ?_;rintro e w1 ⟨rfl,b1⟩;have B1:=Hd (aB HB.out b1);have E1:=Hd (kc b1 G1.out);have E2:=Hd (kc b1 G2.out);clear b1;obtain ⟨c0,c1,c2,c3,f0,f1,f2,f3⟩:=row25' E1.out;obtain ⟨d0,d1,d2,d3,h0,h1,h2,h3⟩:=row25' E2.out)
  | (go_at_call 128;refine (R2.out _ B1.out).mono ?_;rintro e w2 ⟨rfl,b2⟩;have B2:=Hd (aB B1.out b2);have E21:=Hd (kc b2 E1.out);have E22:=Hd (kc b2 E2.out);clear b2 c0 c1 c2 c3 f0 f1 f2 f3 d0 d1 d2 d3 h0 h1 h2 h3;obtain ⟨c0,c1,c2,c3,f0,f1,f2,f3⟩:=row25' E21.out;obtain ⟨d0,d1,d2,d3,h0,h1,h2,h3⟩:=row25' E22.out)
  | (go_at_call 129;refine (R3.out _ B2.out).mono ?_;rintro e w3 ⟨rfl,b3⟩;have B3:=Hd (aB B2.out b3);clear b3))
 go_ret
 exact ⟨rfl,B3.out⟩
theorem kfs_step (l : List Fm) (hh : ∀ t ∈ l,KfT t) : KfS l:=by
 intro u a k c w hu hy
 have hk:=hy.len
 obtain ⟨b,cap,zs,rfl,e1,e2,e3,e4⟩:=id hu
 have L1:=Hd hk.1
 have ZL:=Hd e4.len
 have HC:=Hd e4
 have HR:=Hd e3
 have HY:=Hd hy
 have H:=Hd hh
 have hcap : k + 12 ≤ cap:=by rw [hk.1];exact e1
 have hmax : cap ≤ 9223372036854775807:=by have:=le63 e2;omega
 rw [← hk.1]
 clear hk hu hy hh e1 e2 e3 e4
 go_enter Tryz.func129,Tryz.ntmps129
 go_wp2_with fail
 go_loopw [6] (fun i wr=>∃ j : Nat,j ≤ k + 12 ∧ i = .int .i64 j ∧ Hid (Below w.heap.size w wr)) (fun i _=>k + 12 - (intOf i).toNat)
 case atStart=>exact ⟨0,Nat.zero_le _,rfl,Below.refl _ _⟩
 case round =>
  obtain ⟨j,hj,rfl,hs⟩:=hrel
  by_cases hlt : j < k
  ·obtain ⟨T,hT⟩:=aF (l:=l) (j:=j) (by rw [← L1.out];exact hlt)
   obtain ⟨bb,off,rfl,hc⟩:=HY.out.get (aJ hT)
   obtain ⟨y0,y1,y2,y3,y4,y5,hy⟩:=hc j _ hT
   obtain ⟨v,v',z0,z1,z2,z3,hl,hl2⟩:=HC.out.get hT
   obtain ⟨b',cap',zs',rfl,-⟩:=id hl
   obtain ⟨b'',cap'',zs'',rfl,-⟩:=id hl2
   have hK:=aA hs.out
   have hr : ∀ (i : Nat) (x : Value),zs[i]? = some x → wr.cell? ⟨b,i,none⟩ = some x:=fun i x h=>hK _ _ (HR.out.left i x h)
   have c0:=cell_regrown (hr _ _ z0);have c1:=cell_regrown (hr _ _ z1);have c2:=cell_regrown (hr _ _ z2);have c3:=cell_regrown (hr _ _ z3)
   have d0:=cell_regrown (hK _ _ hy.c0);have d1:=cell_regrown (hK _ _ hy.c1);have d2:=cell_regrown (hK _ _ hy.c2);have d3:=cell_regrown (hK _ _ hy.c3)
   have hm:=List.mem_of_getElem? hT
   have cK : Hid (∀ d os,Calls Tryz.prog 51 #[.agg #[.int .u8 T.op,str T.name,.slice (some ⟨b',0,none⟩) T.args.length cap',.slice (some ⟨b'',0,none⟩) T.sub.length cap''],.agg #[.int .u8 T.op,str T.name,.slice y0 y1 y2,.slice y3 y4 y5]] (grow (redrawn wr d) os) fun e w''=>e = .returned (.bool true) ∧ ∃ p : Regrown,w'' = grow (redrawn wr p.d) p.os):=fun d os =>
    have K : aR w (grow (redrawn wr d) os):=hK.trans (aA (below_regrown wr d os))
    Calls.regrown_of (H.out T hm _ _ _ _ (hl.keep K) (hl2.keep K) ⟨_,_,_,_,_,_,rfl,hy.at_.keep K,hy.at'.keep K⟩)
   have g1 : decide ((j : Int) < (k : Int)) = true:=by simp;omega
   have g2 : decide (k ≤ j) = false:=by simp;omega
   generalize T.args.length = n at *
   generalize T.sub.length = n' at *
   clear hc hy hT hl hl2 hK hr z0 z1 z2 z3 hm
   go_wp2_with fail
   refine wqb ?_
   repeat (go_big_quiet_step (first | (go_at_call 51;exact cK.out _ _)))
   refine wpQuiet_nil (qe fun wq WQ=>?_)
   go_wp2_with fail
   go_roundw
   case rel=>exact ⟨j + 1,by omega,by go_num,aB hs.out WQ.out⟩
   case measure=>simp [intOf];omega
  ·by_cases hlt2 : j < k + 12
   ·obtain ⟨p,hp⟩ : ∃ p,j = k + p:=⟨j - k,by omega⟩
    have hp12 : p < 12:=by omega
    obtain ⟨z0,z1,z2,z3⟩:=fmMarks_get hp12
    have hK:=aA hs.out
    have hr : ∀ (i : Nat) (x : Value),(fU 12)[i]? = some x → wr.cell? ⟨b,k * 4 + i,none⟩ = some x:=fun i x h=>hK _ _ (HR.out _ x (by rw [List.getElem?_append_right (by rw [ZL.out,← L1.out];omega),ZL.out,← L1.out,Nat.add_sub_cancel_left];exact h))
    have ej : j * 4 = k * 4 + p * 4:=by omega
    have c0:=cell_regrown (hr _ _ z0);have c1:=cell_regrown (hr _ _ z1);have c2:=cell_regrown (hr _ _ z2);have c3:=cell_regrown (hr _ _ z3)
    rw [← Nat.add_assoc,← ej] at c1 c2 c3
    rw [← ej] at c0
    have cM : Hid (∀ d os,Calls Tryz.prog 207 #[.int .i64 1,.int .i64 p] (grow (redrawn wr d) os) fun e w''=>e = .returned (.agg #[.int .u8 0,str (bD p),.slice none 0 0,.slice none 0 0]) ∧ ∃ q : Regrown,w'' = grow (redrawn wr q.d) q.os):=fun d os =>
     Calls.regrown_of (xT p hp12 _)
    have cS : Hid (∀ d os,Calls Tryz.prog 44 #[.agg #[.int .u8 0,str (bD p),.slice none 0 0,.slice none 0 0],.agg #[.int .u8 0,str (bD p),.slice none 0 0,.slice none 0 0]] (grow (redrawn wr d) os) fun e w''=>e = .returned (.bool true) ∧ ∃ q : Regrown,w'' = grow (redrawn wr q.d) q.os):=fun d os =>
     Calls.regrown_of (by
      have:=nD (.mk 0 (bD p) [] []) (.mk 0 (bD p) [] []) (.agg #[.int .u8 0,str (bD p),.slice none 0 0,.slice none 0 0]) (.agg #[.int .u8 0,str (bD p),.slice none 0 0,.slice none 0 0]) (grow (redrawn wr d) os) ⟨_,_,_,_,_,_,rfl,At.sl_nil (Nat.zero_le _),At.sl_nil (Nat.zero_le _)⟩ ⟨_,_,_,_,_,_,rfl,At.sl_nil (Nat.zero_le _),At.sl_nil (Nat.zero_le _)⟩
      rwa [sF] at this)
    have g1 : decide ((j : Int) < (k : Int)) = false:=by simp;omega
    have g2 : decide (k ≤ j) = true:=by simp;omega
    have g3 : (j : Int) - (k : Int) = p:=by omega
    generalize bD p = M at *
    clear hr hK z0 z1 z2 z3 ej hp
    go_wp2_with fail
    refine wqb ?_
    repeat (go_big_quiet_step (first | (go_at_call 207;exact cM.out _ _) | (go_at_call 44;exact cS.out _ _)))
    refine wpQuiet_nil (qe fun wq WQ=>?_)
    go_wp2_with fail
    go_roundw
    case rel=>exact ⟨j + 1,by omega,by go_num,aB hs.out WQ.out⟩
    case measure=>simp [intOf];omega
   ·go_wp2_with fail
    go_ret
    exact ⟨rfl,hs.out⟩
mutual
theorem xL : ∀ t : Fm,KfT t
 | .mk o n ts fs=>kf_of _ (kfs_step fs (qN fs))
theorem qN : ∀ l : List Fm,∀ t ∈ l,KfT t
 | [],_,h=>by cases h
 | x :: xs,t,h=>by
  rcases List.mem_cons.1 h with e | e
  ·rw [e];exact xL x
  ·exact qN xs t e
end
open Go Go.RowKit Go.Sort Ly
set_option maxHeartbeats 1600000
theorem AG {w : World} {l : List Int} {u : Value} (h : cR w 1 (inV l) l.length u) : dZ w l u:=by
 have:=h.to
 rw [show (inV l).map D.val = l.map intD by simp [inV,intD,Function.comp_def]] at this
 exact this
theorem sameInts_yes (l : List Int) (a : Option Addr) (k c : Nat) (a' : Option Addr) (k' c' : Nat) (w : World) (hx : cR w 1 (inV l) l.length (.slice a k c)) (hy : cR w 1 (inV l) l.length (.slice a' k' c')) :
  Calls Tryz.prog 152 #[.slice a k c,.slice a' k' c'] w (Rt (.bool true) w):=by
 have:=qK l l a a' k c k' c' w (AG hx) (AG hy)
 simpa using this
open Go Go.RowKit Go.Sort Ly
set_option maxHeartbeats 4000000
theorem get_f1 {w : World} {l : List Int} {a : Option Addr} {n c : Nat} (h : cR w 1 (inV l) l.length (.slice a n c)) {j : Nat} {f : Int} (hf : l[j]? = some f) :
  ∃ b off,a = some ⟨b,off,none⟩ ∧ w.cell? ⟨b,off + j,none⟩ = some (.int .i64 f):=by
 obtain ⟨b,off,e,hc⟩:=h.at (by have:=(List.getElem?_eq_some_iff.1 hf).1;omega)
 exact ⟨b,off,e,hc _ _ (by simp [inV,hf])⟩
theorem GF {w : World} {b : Nat} {zs ms : List Value} (h : jW w b (zs ++ ms)) {j : Nat} {u : Value} (hu : zs[j]? = some u) : w.cell? ⟨b,j,none⟩ = some u:=h.left j u hu
theorem GG {w : World} {b n k : Nat} {zs : List Value} {mk : Nat → List Value} (h : jW w b (zs ++ marksOf mk 12)) (hz : zs.length = n * k) (hk : ∀ i,(mk i).length = k) {p i : Nat} {u : Value} (hp : p < 12) (hi : i < k) (hu : (mk p)[i]? = some u) : w.cell? ⟨b,(n + p) * k + i,none⟩ = some u:=by
 refine h _ u ?_
 have e : (n + p) * k + i = n * k + (p * k + i):=by rw [Nat.add_mul,Nat.add_assoc]
 rw [e,List.getElem?_append_right (by rw [hz];omega),hz,Nat.add_sub_cancel_left,pE mk k hk 12 p i hp hi]
 exact hu
theorem keptInts_c (l : List Int) (u : Value) (a : Option Addr) (k c : Nat) (w : World) (hu : eI w 1 (inV l) (marksOf oQ 12) l.length u) (hy : cR w 1 (inV l) l.length (.slice a k c)) :
  Calls Tryz.prog 77 #[u,.slice a k c] w (Rt (.bool true) w):=by
 have hk:=hy.len
 obtain ⟨b,cap,rfl,e1,e2,e3,e4⟩:=id hu
 have L1:=Hd hk.1
 have ZL:=Hd e3
 have HR:=Hd e4
 have HY:=Hd hy
 have hcap : k + 12 ≤ cap:=by rw [hk.1];exact e1
 have hmax : cap ≤ 9223372036854775807:=by have:=le63 e2;omega
 rw [← hk.1]
 clear hk hu hy e1 e2 e3 e4
 go_enter Tryz.func77,Tryz.ntmps77
 go_wp2_with fail
 go_loopw [6] (fun i wr=>∃ j : Nat,j ≤ k + 12 ∧ i = .int .i64 j ∧ Hid (Below w.heap.size w wr)) (fun i _=>k + 12 - (intOf i).toNat)
 case atStart=>exact ⟨0,Nat.zero_le _,rfl,Below.refl _ _⟩
 case round =>
  obtain ⟨j,hj,rfl,hs⟩:=hrel
  by_cases hlt : j < k
  ·obtain ⟨T,hT⟩:=aF (l:=l) (j:=j) (by rw [← L1.out];exact hlt)
   obtain ⟨bb,off,rfl,q0⟩:=get_f1 HY.out hT
   have e0 : (inV l)[j]? = some (.int .i64 T):=by simp [inV,hT]
   have hK:=aA hs.out
   have c0:=cell_regrown (hK _ _ (GF HR.out e0))
   have d0:=cell_regrown (hK _ _ q0)
   have g1 : decide ((j : Int) < (k : Int)) = true:=by simp;omega
   have g2 : decide (k ≤ j) = false:=by simp;omega
   clear hT hK
   go_wp2_with fail
   refine wqb ?_
   repeat (go_big_quiet_step (fail))
   refine wpQuiet_nil (qe fun wq WQ=>?_)
   go_wp2_with fail
   go_roundw
   case rel=>exact ⟨j + 1,by omega,by go_num,aB hs.out WQ.out⟩
   case measure=>simp [intOf];omega
  ·by_cases hlt2 : j < k + 12
   ·obtain ⟨p,hp⟩ : ∃ p,j = k + p:=⟨j - k,by omega⟩
    have hp12 : p < 12:=by omega
    have hK:=aA hs.out
    have c0 : wr.cell? ⟨b,j,none⟩ = some (.int .i64 (fL p)):=by
     have:=hK _ _ (GG HR.out ZL.out (fun _=>rfl) hp12 (show 0 < 1 by decide) (u:=.int .i64 (fL p)) rfl)
     rw [← L1.out,← hp] at this;simpa using this
    have c0:=cell_regrown c0
    have cM : Hid (∀ d os,Calls Tryz.prog 136 #[.int .i64 1,.int .i64 p] (grow (redrawn wr d) os) fun e w''=>e = .returned (.int .i64 (fL p)) ∧ ∃ q : Regrown,w'' = grow (redrawn wr q.d) q.os):=fun d os =>
     Calls.regrown_of ((xV p hp12 _).mono fun e w' h=>⟨h.1,by rw [h.2];exact Below.refl _ _⟩)
    have g1 : decide ((j : Int) < (k : Int)) = false:=by simp;omega
    have g2 : decide (k ≤ j) = true:=by simp;omega
    have g3 : (j : Int) - (k : Int) = p:=by omega
    generalize fL p = M at *
    clear hK hp
    go_wp2_with fail
    refine wqb ?_
    repeat (go_big_quiet_step (first | (go_at_call 136;exact cM.out _ _)))
    refine wpQuiet_nil (qe fun wq WQ=>?_)
    go_wp2_with fail
    go_roundw
    case rel=>exact ⟨j + 1,by omega,by go_num,aB hs.out WQ.out⟩
    case measure=>simp [intOf];omega
   ·go_wp2_with fail
    go_ret
    exact ⟨rfl,hs.out⟩
open Go Go.RowKit Go.Sort Ly
set_option maxHeartbeats 4000000
theorem nQ (p : Pf) : p.same p = true:=(Pf.same_iff p p).2 rfl
def KqS (l : List Pf) : Prop:=∀ (u : Value) (a : Option Addr) (k c : Nat) (w : World),jR w l u → gD w l (.slice a k c) → Calls Tryz.prog 183 #[u,.slice a k c] w (Rt (.bool true) w)
def KqT (t : Pf) : Prop:=∀ (cs : List Value) (y : Value) (w : World),PfL w t cs → cU w t y → Calls Tryz.prog 112 #[.agg cs.toArray,y] w (Rt (.bool true) w)
theorem kqs_step (l : List Pf) (hh : ∀ t ∈ l,KqT t) : KqS l:=by
 intro u a k c w hu hy
 have hk:=hy.len
 obtain ⟨b,cap,zs,rfl,e1,e2,e3,e4⟩:=id hu
 have L1:=Hd hk.1
 have ZL:=Hd e4.len
 have HC:=Hd e4
 have HR:=Hd e3
 have HY:=Hd hy
 have H:=Hd hh
 have hcap : k + 12 ≤ cap:=by rw [hk.1];exact e1
 have hmax : cap ≤ 9223372036854775807:=by have:=le63 e2;omega
 rw [← hk.1]
 clear hk hu hy hh e1 e2 e3 e4
 go_enter Tryz.func183,Tryz.ntmps183
 go_wp2_with fail
 go_loopw [6] (fun i wr=>∃ j : Nat,j ≤ k + 12 ∧ i = .int .i64 j ∧ Hid (Below w.heap.size w wr)) (fun i _=>k + 12 - (intOf i).toNat)
 case atStart=>exact ⟨0,Nat.zero_le _,rfl,Below.refl _ _⟩
 case round =>
  obtain ⟨j,hj,rfl,hs⟩:=hrel
  by_cases hlt : j < k
  ·obtain ⟨T,hT⟩:=aF (l:=l) (j:=j) (by rw [← L1.out];exact hlt)
   obtain ⟨bb,off,rfl,hc⟩:=HY.out.get (aJ hT)
   obtain ⟨y0,y1,y2,y3,y4,y5,y6,y7,y8,y9,y10,y11,hy⟩:=hc j _ hT
   obtain ⟨cs,hl,hcs⟩:=HC.out.get hT
   obtain ⟨av,uv,qv,sv,rfl,k1,k2,k3,k4⟩:=rV.1 hl
   obtain ⟨b1,cap1,zs1,rfl,-⟩:=id k1
   obtain ⟨b2,cap2,zs2,rfl,-⟩:=id k2
   obtain ⟨b3,cap3,zs3,ms3,rfl,-⟩:=id k3
   obtain ⟨b4,cap4,zs4,rfl,-⟩:=id k4
   have hK:=aA hs.out
   have hr : ∀ (i : Nat) (x : Value),zs[i]? = some x → wr.cell? ⟨b,i,none⟩ = some x:=fun i x h=>hK _ _ (HR.out.left i x h)
   have c0:=cell_regrown (hr _ _ (hcs 0 (by omega)));have c1:=cell_regrown (hr _ _ (hcs 1 (by omega)));have c2:=cell_regrown (hr _ _ (hcs 2 (by omega)));have c3:=cell_regrown (hr _ _ (hcs 3 (by omega)))
   have c4:=cell_regrown (hr _ _ (hcs 4 (by omega)));have c5:=cell_regrown (hr _ _ (hcs 5 (by omega)));have c6:=cell_regrown (hr _ _ (hcs 6 (by omega)));have c7:=cell_regrown (hr _ _ (hcs 7 (by omega)))
   rw [Nat.add_zero] at c0
   have d0:=cell_regrown (hK _ _ hy.c0);have d1:=cell_regrown (hK _ _ hy.c1);have d2:=cell_regrown (hK _ _ hy.c2);have d3:=cell_regrown (hK _ _ hy.c3);have d4:=cell_regrown (hK _ _ hy.c4);have d5:=cell_regrown (hK _ _ hy.c5);have d6:=cell_regrown (hK _ _ hy.c6);have d7:=cell_regrown (hK _ _ hy.c7)
   have hm:=List.mem_of_getElem? hT
   have cK : Hid (∀ d os,Calls Tryz.prog 112 #[.agg #[str T.rule,.int .u8 T.form.op,str T.form.name,.slice (some ⟨b1,0,none⟩) T.form.args.length cap1,.slice (some ⟨b2,0,none⟩) T.form.sub.length cap2,.int .i64 T.label,.slice (some ⟨b4,0,none⟩) T.sub.length cap4,.slice (some ⟨b3,0,none⟩) T.marks.length cap3],.agg #[str T.rule,.int .u8 T.form.op,str T.form.name,.slice y0 y1 y2,.slice y3 y4 y5,.int .i64 T.label,.slice y6 y7 y8,.slice y9 y10 y11]] (grow (redrawn wr d) os) fun e w''=>e = .returned (.bool true) ∧ ∃ p : Regrown,w'' = grow (redrawn wr p.d) p.os):=fun d os =>
    have K : aR w (grow (redrawn wr d) os):=hK.trans (aA (below_regrown wr d os))
    Calls.regrown_of (H.out T hm _ _ _ (PfL.keep K _ _ hl) ⟨_,_,_,_,_,_,_,_,_,_,_,_,rfl,hy.args.keep K,hy.parts.keep K,hy.sub.keep K,hy.marks.keep K⟩)
   have g1 : decide ((j : Int) < (k : Int)) = true:=by simp;omega
   have g2 : decide (k ≤ j) = false:=by simp;omega
   generalize T.form.args.length = n1 at *
   generalize T.form.sub.length = n2 at *
   generalize T.sub.length = n3 at *
   generalize T.marks.length = n4 at *
   clear hc hy hT hl hcs k1 k2 k3 k4 hK hr hm
   go_wp2_with fail
   refine wqb ?_
   repeat (go_big_quiet_step (first | (go_at_call 112;exact cK.out _ _)))
   refine wpQuiet_nil (qe fun wq WQ=>?_)
   go_wp2_with fail
   go_roundw
   case rel=>exact ⟨j + 1,by omega,by go_num,aB hs.out WQ.out⟩
   case measure=>simp [intOf];omega
  ·by_cases hlt2 : j < k + 12
   ·obtain ⟨p,hp⟩ : ∃ p,j = k + p:=⟨j - k,by omega⟩
    have hp12 : p < 12:=by omega
    have zg : ∀ i,i < 8 → (marksOf jL 12)[p * 8 + i]? = (jL p)[i]?:=fun i hi=>pfMarks_get hp12 hi
    have hK:=aA hs.out
    have hr : ∀ (i : Nat) (x : Value),(marksOf jL 12)[i]? = some x → wr.cell? ⟨b,k * 8 + i,none⟩ = some x:=fun i x h=>hK _ _ (HR.out _ x (by rw [List.getElem?_append_right (by rw [ZL.out,← L1.out];omega),ZL.out,← L1.out,Nat.add_sub_cancel_left];exact h))
    have ej : j * 8 = k * 8 + p * 8:=by omega
    have c0:=cell_regrown (hr _ _ (zg 0 (by omega)));have c1:=cell_regrown (hr _ _ (zg 1 (by omega)));have c2:=cell_regrown (hr _ _ (zg 2 (by omega)));have c3:=cell_regrown (hr _ _ (zg 3 (by omega)))
    have c4:=cell_regrown (hr _ _ (zg 4 (by omega)));have c5:=cell_regrown (hr _ _ (zg 5 (by omega)));have c6:=cell_regrown (hr _ _ (zg 6 (by omega)));have c7:=cell_regrown (hr _ _ (zg 7 (by omega)))
    rw [← Nat.add_assoc,← ej] at c0 c1 c2 c3 c4 c5 c6 c7
    rw [Nat.add_zero] at c0
    have cM : Hid (∀ d os,Calls Tryz.prog 260 #[.int .i64 1,.int .i64 p] (grow (redrawn wr d) os) fun e w''=>e = .returned (.agg #[str (bD p),.int .u8 0,str [],.slice none 0 0,.slice none 0 0,.int .i64 (fL p),.slice none 0 0,.slice none 0 0]) ∧ ∃ q : Regrown,w'' = grow (redrawn wr q.d) q.os):=fun d os =>
     Calls.regrown_of (vH p hp12 _)
    have cS : Hid (∀ d os,Calls Tryz.prog 27 #[.agg #[str (bD p),.int .u8 0,str [],.slice none 0 0,.slice none 0 0,.int .i64 (fL p),.slice none 0 0,.slice none 0 0],.agg #[str (bD p),.int .u8 0,str [],.slice none 0 0,.slice none 0 0,.int .i64 (fL p),.slice none 0 0,.slice none 0 0]] (grow (redrawn wr d) os) fun e w''=>e = .returned (.bool true) ∧ ∃ q : Regrown,w'' = grow (redrawn wr q.d) q.os):=fun d os =>
     Calls.regrown_of (by
      have:=lU (.mk (bD p) (.mk 0 [] [] []) (fL p) [] []) (.mk (bD p) (.mk 0 [] [] []) (fL p) [] []) (.agg #[str (bD p),.int .u8 0,str [],.slice none 0 0,.slice none 0 0,.int .i64 (fL p),.slice none 0 0,.slice none 0 0]) (.agg #[str (bD p),.int .u8 0,str [],.slice none 0 0,.slice none 0 0,.int .i64 (fL p),.slice none 0 0,.slice none 0 0]) (grow (redrawn wr d) os) ⟨_,_,_,_,_,_,_,_,_,_,_,_,rfl,At.sl_nil (Nat.zero_le _),At.sl_nil (Nat.zero_le _),At.sl_nil (Nat.zero_le _),At.sl_nil (Nat.zero_le _)⟩ ⟨_,_,_,_,_,_,_,_,_,_,_,_,rfl,At.sl_nil (Nat.zero_le _),At.sl_nil (Nat.zero_le _),At.sl_nil (Nat.zero_le _),At.sl_nil (Nat.zero_le _)⟩
      rwa [nQ] at this)
    have g1 : decide ((j : Int) < (k : Int)) = false:=by simp;omega
    have g2 : decide (k ≤ j) = true:=by simp;omega
    have g3 : (j : Int) - (k : Int) = p:=by omega
    generalize bD p = M at *
    generalize fL p = N at *
    clear hr hK zg ej hp
    go_wp2_with fail
    refine wqb ?_
    repeat (go_big_quiet_step (first | (go_at_call 260;exact cM.out _ _) | (go_at_call 27;exact cS.out _ _)))
    refine wpQuiet_nil (qe fun wq WQ=>?_)
    go_wp2_with fail
    go_roundw
    case rel=>exact ⟨j + 1,by omega,by go_num,aB hs.out WQ.out⟩
    case measure=>simp [intOf];omega
   ·go_wp2_with fail
    go_ret
    exact ⟨rfl,hs.out⟩
open Go Go.RowKit Go.Sort Ly
set_option maxHeartbeats 4000000
open Go Go.RowKit Go.Sort Ly
set_option maxHeartbeats 4000000
open Go Go.RowKit Go.Sort Ly
set_option maxHeartbeats 4000000
open Go Go.RowKit Go.Sort Ly
set_option maxHeartbeats 4000000
open Go Go.RowKit Go.Sort Ly
set_option maxHeartbeats 4000000
open Go Go.RowKit Go.Sort Ly
set_option maxHeartbeats 4000000
open Go Go.RowKit Go.Sort Ly
set_option maxHeartbeats 4000000
open Go Go.RowKit Go.Sort Ly
set_option maxHeartbeats 4000000
end Go.Proofs.YtcandidgaegghaaGreatDoor
