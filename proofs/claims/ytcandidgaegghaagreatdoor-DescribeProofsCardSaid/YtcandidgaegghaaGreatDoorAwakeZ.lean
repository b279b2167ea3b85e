/- lyceumlaw41.awake answers true, and writes nothing that was there. Conditions: the program's tables (rows, powers of ten, MaxLen) lie as laid. -/
import Derived.Test.YtcandidgaegghaaGreatDoorCpZ
import Derived.Test.YtcandidgaegghaaGreatDoorProofAZ
import Derived.Test.YtcandidgaegghaaGreatDoorModBZ
import Derived.Deep.RegionHeld3
import Derived.Test.YtcandidgaegghaaGreatDoorRdGZ
import Derived.LoopN
set_option maxRecDepth 10000
set_option linter.unusedSimpArgs false
set_option linter.unusedVariables false
namespace Go.Proofs.YtcandidgaegghaaGreatDoor
open Go Go.RowKit Ly
set_option maxHeartbeats 800000
/- The makers once more, with the values written out. -/
theorem wW (n : Bs) (a : Option Addr) (k c : Nat) (w : World) : Calls Tryz.prog 55 #[str n,.slice a k c] w (Rt (.agg #[.int .u8 1,str n,.slice a k c,.slice none 0 0]) w):=by
 go_enter Tryz.func55,Tryz.ntmps55
 go_wp2
 exact bodyPost_ret (v:=.agg #[.int .u8 1,str n,.slice a k c,.slice none 0 0]) (by simp [results,Tryz.results55,go_sem]) rfl ⟨rfl,bnew⟩
theorem iV (o : Int) (a : Option Addr) (k c : Nat) (w : World) : Calls Tryz.prog 47 #[.int .u8 o,.slice a k c] w (Rt (.agg #[.int .u8 o,str [],.slice none 0 0,.slice a k c]) w):=by
 go_enter Tryz.func47,Tryz.ntmps47
 go_wp2
 exact bodyPost_ret (v:=.agg #[.int .u8 o,str [],.slice none 0 0,.slice a k c]) (by simp [results,Tryz.results47,go_sem]) rfl ⟨rfl,bnew⟩
theorem variable41_x (n : Bs) (w : World) : Calls Tryz.prog 56 #[str n] w (Rt (.agg #[.bool true,str n,.slice none 0 0]) w):=by
 go_enter Tryz.func56,Tryz.ntmps56
 go_wp2
 exact bodyPost_ret (v:=.agg #[.bool true,str n,.slice none 0 0]) (by simp [results,Tryz.results56,go_sem]) rfl ⟨rfl,bnew⟩
theorem zO (n : Bs) (a : Option Addr) (k c : Nat) (w : World) : Calls Tryz.prog 58 #[str n,.slice a k c] w (Rt (.agg #[.bool false,str n,.slice a k c]) w):=by
 go_enter Tryz.func58,Tryz.ntmps58
 go_wp2
 exact bodyPost_ret (v:=.agg #[.bool false,str n,.slice a k c]) (by simp [results,Tryz.results58,go_sem]) rfl ⟨rfl,bnew⟩
theorem FF (l o : Int) (n : Bs) (a : Option Addr) (k c : Nat) (b : Option Addr) (m d : Nat) (w : World) :
  Calls Tryz.prog 60 #[.int .i64 l,.agg #[.int .u8 o,str n,.slice a k c,.slice b m d]] w (Rt (.agg #[str [],.int .u8 o,str n,.slice a k c,.slice b m d,.int .i64 l,.slice none 0 0,.slice none 0 0]) w):=by
 go_enter Tryz.func60,Tryz.ntmps60
 go_wp2
 exact bodyPost_ret (v:=.agg #[str [],.int .u8 o,str n,.slice a k c,.slice b m d,.int .i64 l,.slice none 0 0,.slice none 0 0]) (by simp [results,Tryz.results60,go_sem]) rfl ⟨rfl,bnew.alloc (by simp) _⟩
theorem step41_x (r : Bs) (o : Int) (n : Bs) (a : Option Addr) (k c : Nat) (b : Option Addr) (m d : Nat) (a' : Option Addr) (k' c' : Nat) (b' : Option Addr) (m' d' : Nat) (w : World) :
  Calls Tryz.prog 59 #[str r,.agg #[.int .u8 o,str n,.slice a k c,.slice b m d],.slice a' k' c',.slice b' m' d'] w (Rt (.agg #[str r,.int .u8 o,str n,.slice a k c,.slice b m d,.int .i64 0,.slice b' m' d',.slice a' k' c']) w):=by
 go_enter Tryz.func59,Tryz.ntmps59
 go_wp2
 exact bodyPost_ret (v:=.agg #[str r,.int .u8 o,str n,.slice a k c,.slice b m d,.int .i64 0,.slice b' m' d',.slice a' k' c']) (by simp [results,Tryz.results59,go_sem]) rfl ⟨rfl,bnew.alloc (by simp) _⟩
def BoundX (o : Int) (n : Bs) (cs : Array Value) (w : World) (e : Ending) (w' : World) : Prop:=∃ g,e = .returned (.agg #[.int .u8 o,str n,.slice none 0 0,.slice (some ⟨g,0,none⟩) 1 1]) ∧ w'.heap[g]? = some (.cells cs 25 (0,0)) ∧ Below w.heap.size w w'
theorem zS (o : Int) (n : Bs) (o' : Int) (n' : Bs) (a : Option Addr) (k c : Nat) (b : Option Addr) (m d : Nat) (w : World) :
  Calls Tryz.prog 57 #[.int .u8 o,str n,.agg #[.int .u8 o',str n',.slice a k c,.slice b m d]] w (BoundX o n #[.int .u8 o',str n',.slice a k c,.slice b m d] w):=by
 have h3 : Hid ((((w.alloc (.cells #[.int .u8 o',str n',.slice a k c,.slice b m d] 25)).alloc (.cells #[.int .u8 o,str n,.slice none 0 0,.slice (some ⟨w.heap.size + 1 + 1,0,none⟩) 1 1] 25)).alloc (.cells #[.int .u8 o',str n',.slice a k c,.slice b m d] 25)).heap[w.heap.size + 1 + 1]? = some (.cells #[.int .u8 o',str n',.slice a k c,.slice b m d] 25 (0,0))):=by
  have:=heap_alloc_new ((w.alloc (.cells #[.int .u8 o',str n',.slice a k c,.slice b m d] 25)).alloc (.cells #[.int .u8 o,str n,.slice none 0 0,.slice (some ⟨w.heap.size + 1 + 1,0,none⟩) 1 1] 25)) (.cells #[.int .u8 o',str n',.slice a k c,.slice b m d] 25)
  simpa [Hid] using this
 go_enter Tryz.func57,Tryz.ntmps57
 go_wp2
 refine bodyPost_ret (v:=.agg #[.int .u8 o,str n,.slice none 0 0,.slice (some ⟨w.heap.size + 1 + 1,0,none⟩) 1 1]) (by simp [results,Tryz.results57,go_sem]) rfl ⟨_,rfl, ?_, ?_⟩
 ·exact h3.out
 ·exact (bnew.alloc (by simp) _).alloc (by simp;omega) _
/- What lies in blocks that are known whole. -/
section
variable {W w w' : World} {g : Nat}
theorem kc {o : Obj} (b : Below w.heap.size w w') (h : w.heap[g]? = some o) : w'.heap[g]? = some o:=(b.block g (Array.getElem?_eq_some_iff.1 h).1).trans h
theorem ka {o : Obj} (o' : Obj) (h : w.heap[g]? = some o) : (w.alloc o').heap[g]? = some o:=(heap_alloc_old _ _ (Array.getElem?_eq_some_iff.1 h).1).trans h
theorem kd {o : Obj} (h : w.heap[g]? = some o) : w.drew.heap[g]? = some o:=h
theorem nilT (W : World) : bI W [] (.slice none 0 0):=At.sl_nil (Nat.zero_le _)
theorem nilF (W : World) : cD W [] (.slice none 0 0):=At.sl_nil (Nat.zero_le _)
theorem row_of {W : World} {g size n : Nat} {cs : Array Value} {t : TypeId} {ds : List D} (hg : W.heap[g]? = some (.cells cs t (0,0))) (h : cs.toList.length = ds.length ∧ ∀ (j : Nat) (d : D),ds[j]? = some d → ∃ u,cs.toList[j]? = some u ∧ At W d u) (hn : ds.length = n * size) (hc : n ≤ maxLen) : At W (.sl size n ds) (.slice (some ⟨g,0,none⟩) n n):=by
 refine At.sl_mk hn (Nat.le_refl _) hc fun j d hd=>?_
 obtain ⟨u,h1,h2⟩:=h.2 j d hd
 refine ⟨u, ?_,h2⟩
 rw [box_cell hg]
 simpa using h1
end
open Go Go.RowKit Ly
def wO (s : Bs) (n : Nat) : Prop:=∃ r,(fV s = .bad r ∨ ∃ f,fV s = .good f r ∧ r ≠ []) ∧ (bC s).length - r.length = n
theorem wB (s : Bs) (n : Nat) (hs : s.length ≤ 16384) (hn : wO s n) (w : World) (hm : kL w) (rows : dV w) :
  Calls Tryz.prog 43 #[str s] w (Rt (.tuple #[.agg #[.int .u8 0,str [],.slice none 0 0,.slice none 0 0],.int .i64 n,.int .i64 410]) w):=by
 obtain ⟨r,h,hl⟩:=hn
 have hno : ∀ f,fV s ≠ .good f []:=by
  intro f e
  rcases h with h | ⟨g,h,hr⟩
  ·rw [e] at h;cases h
  ·rw [e] at h;cases h;exact hr rfl
 refine (Read_c s hs (fun f e=>absurd e (hno f)) w hm rows).mono fun e w' ⟨hb,ha⟩=>⟨?_,hb⟩
 rcases ha with ⟨f,v,e,_⟩ | ⟨r',h',he⟩
 ·exact absurd e (hno f)
 ·have e : r' = r:=by
   rcases h with h | ⟨g,h,_⟩ <;> rcases h' with h' | ⟨g',h',_⟩ <;> rw [h] at h' <;> cases h' <;> rfl
  rw [he,e,hl]
theorem no1 : wO [98,111,116,104,32,80,32,111,114,32,81] 2:=⟨[[111,114],[81]],.inl (by kernel_rfl),by decide +kernel⟩
theorem no2 : wO [105,102,32,80,32,116,104,101,110] 3:=⟨[],.inl (by kernel_rfl),by decide +kernel⟩
theorem no3 : wO [80,32,81] 1:=⟨[[81]],.inr ⟨.mk 1 [80] [] [],by kernel_rfl,by decide⟩,by decide +kernel⟩
theorem no4 : wO [] 0:=⟨[],.inl (by kernel_rfl),by decide +kernel⟩
open Go Go.RowKit Ly
set_option maxHeartbeats 800000
section
variable {W : World} {g : Nat} {f f' : Fm} {a b a' b' : Option Addr} {n c m d n' c' m' d' : Nat}
theorem pX (hg : W.heap[g]? = some (.cells #[.int .u8 f.op,str f.name,.slice a n c,.slice b m d] 25 (0,0))) (ht : bI W f.args (.slice a n c)) (hs : cD W f.sub (.slice b m d)) : cD W [f] (.slice (some ⟨g,0,none⟩) 1 1):=by
 refine row_of (ds:=cH [f]) hg ?_ (by simp [cH,Fm.ds_length]) (by simp [maxLen])
 rw [show cH [f] = f.ds by simp [cH]]
 exact mP ht hs
theorem nJ (hg : W.heap[g]? = some (.cells #[.int .u8 f.op,str f.name,.slice a n c,.slice b m d,.int .u8 f'.op,str f'.name,.slice a' n' c',.slice b' m' d'] 25 (0,0))) (ht : bI W f.args (.slice a n c)) (hs : cD W f.sub (.slice b m d)) (ht' : bI W f'.args (.slice a' n' c')) (hs' : cD W f'.sub (.slice b' m' d')) : cD W [f,f'] (.slice (some ⟨g,0,none⟩) 2 2):=by
 refine row_of (ds:=cH [f,f']) hg ?_ (by simp [cH,Fm.ds_length]) (by simp [maxLen])
 rw [show cH [f,f'] = f.ds ++ f'.ds by simp [cH]]
 exact (mP ht hs).append (mP ht' hs')
theorem GN {t : Tm} (ht : bI W t.args (.slice a n c)) : aP W t.ds [.bool t.v,str t.name,.slice a n c]:=by
 obtain ⟨v,nm,ta⟩:=t
 exact aP.cons rfl (aP.cons rfl (aP.cons ht (aP.nil _)))
theorem KK {t t' : Tm} (hg : W.heap[g]? = some (.cells #[.bool t.v,str t.name,.slice a n c,.bool t'.v,str t'.name,.slice a' n' c'] 95 (0,0))) (ht : bI W t.args (.slice a n c)) (ht' : bI W t'.args (.slice a' n' c')) : bI W [t,t'] (.slice (some ⟨g,0,none⟩) 2 2):=by
 refine row_of (ds:=cC [t,t']) hg ?_ (by simp [cC,Tm.ds_length]) (by simp [maxLen])
 rw [show cC [t,t'] = t.ds ++ t'.ds by simp [cC]]
 exact (GN ht).append (GN ht')
end
/- awake's parts. -/
def awP : Fm:=.mk 1 [80] [] []
def awQ : Fm:=.mk 1 [81] [] []
def awR : Fm:=.mk 1 [82] [] []
def awA1 : Fm:=.mk 3 [] [] [awR]
def awA2 : Fm:=.mk 4 [] [] [awQ,awA1]
def awB2 : Fm:=.mk 1 [82] [.mk true [120] [],.mk false [102] [.mk true [121] [],.mk false [97] []]] []
def awB1 : Fm:=.mk 9 [121] [] [awB2]
def awB : Fm:=.mk 8 [120] [] [awB1]
def awC1 : Fm:=.mk 14 [] [] [awP,.mk 2 [] [] []]
def awC : Fm:=.mk 10 [] [] [awC1]
def awA : Fm:=.mk 6 [] [] [awP,awA2]
structure AwS (w : World) (g1 g2 g3 g4 : Nat) (wx : World) : Prop where
 bw : Below w.heap.size w wx
 c1 : wx.heap[g1]? = some (.cells #[.int .u8 1,str [80],.slice none 0 0,.slice none 0 0] 25 (0,0))
 c2 : wx.heap[g2]? = some (.cells #[.int .u8 1,str [81],.slice none 0 0,.slice none 0 0] 25 (0,0))
 c3 : wx.heap[g3]? = some (.cells #[.bool true,str [120],.slice none 0 0] 95 (0,0))
 c4 : wx.heap[g4]? = some (.cells #[.bool true,str [121],.slice none 0 0] 95 (0,0))
theorem AwS.below {w : World} {g1 g2 g3 g4 : Nat} {wx wy : World} (h : AwS w g1 g2 g3 g4 wx) (b : Below wx.heap.size wx wy) : AwS w g1 g2 g3 g4 wy :=
 ⟨aB h.bw b,kc b h.c1,kc b h.c2,kc b h.c3,kc b h.c4⟩
def awN : Fm:=.mk 3 [] [] [awQ]
def awO : Fm:=.mk 6 [] [] [awP,awN]
def awI : Fm:=.mk 6 [] [] [awP,awQ]
def awPr : Pf:=.mk [105,109,112,69] awQ 0 [.mk [] awI 2 [] [],.mk [] awP 1 [] []] [[],[]]
theorem nilP (W : World) : gD W [] (.slice none 0 0):=At.sl_nil (Nat.zero_le _)
theorem nilM (W : World) : eB W [] (.slice none 0 0):=At.sl_nil (Nat.zero_le _)
section
variable {W : World} {g : Nat} {p p' : Pf} {a b s q a' b' s' q' : Option Addr} {n c m d sn sc qn qc n' c' m' d' sn' sc' qn' qc' : Nat}
theorem FS (h1 : bI W p.form.args (.slice a n c)) (h2 : cD W p.form.sub (.slice b m d)) (h3 : gD W p.sub (.slice s sn sc)) (h4 : eB W p.marks (.slice q qn qc)) :
  aP W p.ds [str p.rule,.int .u8 p.form.op,str p.form.name,.slice a n c,.slice b m d,.int .i64 p.label,.slice s sn sc,.slice q qn qc]:=by
 obtain ⟨r,⟨op,nm,ta,sub⟩,lb,ps,ms⟩:=p
 exact aP.cons rfl (aP.cons rfl (aP.cons rfl (aP.cons h1 (aP.cons h2 (aP.cons rfl (aP.cons h3 (aP.cons h4 (aP.nil _))))))))
theorem pfs_of2 (hg : W.heap[g]? = some (.cells #[str p.rule,.int .u8 p.form.op,str p.form.name,.slice a n c,.slice b m d,.int .i64 p.label,.slice s sn sc,.slice q qn qc,str p'.rule,.int .u8 p'.form.op,str p'.form.name,.slice a' n' c',.slice b' m' d',.int .i64 p'.label,.slice s' sn' sc',.slice q' qn' qc'] 53 (0,0)))
  (h1 : bI W p.form.args (.slice a n c)) (h2 : cD W p.form.sub (.slice b m d)) (h3 : gD W p.sub (.slice s sn sc)) (h4 : eB W p.marks (.slice q qn qc))
  (h1' : bI W p'.form.args (.slice a' n' c')) (h2' : cD W p'.form.sub (.slice b' m' d')) (h3' : gD W p'.sub (.slice s' sn' sc')) (h4' : eB W p'.marks (.slice q' qn' qc')) : gD W [p,p'] (.slice (some ⟨g,0,none⟩) 2 2):=by
 refine row_of (ds:=cX [p,p']) hg ?_ (by simp [cX,Pf.ds_length]) (by simp [maxLen])
 rw [show cX [p,p'] = p.ds ++ p'.ds by simp [cX]]
 exact (FS h1 h2 h3 h4).append (FS h1' h2' h3' h4')
theorem marks_of2 {t : TypeId} (hg : W.heap[g]? = some (.cells #[.slice none 0 0,.slice none 0 0] t (0,0))) : eB W [[],[]] (.slice (some ⟨g,0,none⟩) 2 2) :=
 row_of (ds:=[eY [],eY []]) hg (aP.cons (At.sl_nil (Nat.zero_le _)) (aP.cons (At.sl_nil (Nat.zero_le _)) (aP.nil _))) rfl (by simp [maxLen])
end
def awL1 : List Bs:=[[108,101,118,101,108,32,48,58,32,105,102],[108,101,118,101,108,32,49,58,32,80],[108,101,118,101,108,32,49,58,32,110,111,116],[108,101,118,101,108,32,50,58,32,81]]
def awL2 : List Bs:=[[49,58,32,97,115,115,117,109,101,32,50,44,32,105,102,32,80,32,116,104,101,110,32,81],[50,58,32,97,115,115,117,109,101,32,49,44,32,80],[51,58,32,81,44,32,98,121,32,105,109,112,69,32,102,114,111,109,32,49,44,32,50]]
theorem awE1 : ((awO.outl 0).map cG == awL1) = true:=by decide +kernel
theorem awE2 : (awPr.lines 0 == awL2) = true:=by decide +kernel
theorem awE3 : (fH == fH) = true:=by decide +kernel
theorem yU {W : World} {g : Nat} {l : List Bs} {t : TypeId} (hg : W.heap[g]? = some (.cells (l.map str).toArray t (0,0))) (hn : l.length ≤ maxLen:=by decide) : aU W l (.slice (some ⟨g,0,none⟩) l.length l.length):=by
 refine At.sl_mk (by simp) (Nat.le_refl _) hn fun j d hd=>?_
 rw [List.getElem?_map] at hd
 obtain ⟨y,hy,rfl⟩:=Option.map_eq_some_iff.1 hd
 refine ⟨str y, ?_,rfl⟩
 rw [box_cell hg]
 simp [hy]
def DD : Array Value:=#[str [98,111,116,104,32,80,32,111,114,32,81],str [105,102,32,80,32,116,104,101,110],str [80,32,81],str []]
theorem nG {wc wr w1 w2 : World} (h : Below wc.heap.size wc wr ∧ wr.heap[wc.heap.size]? = some (.cells DD 9 (0,0))) (b : Below wr.heap.size wr w1) (b2 : Below w1.heap.size w1 w2) : Hid (Below wc.heap.size wc w2 ∧ w2.heap[wc.heap.size]? = some (.cells DD 9 (0,0))) :=
 ⟨aB h.1 (aB b b2),kc b2 (kc b h.2)⟩
set_option maxHeartbeats 4000000 in
theorem awake_c (w : World) (hr : dV w) (hp : iK w) (hm : kL w) : Calls Tryz.prog 14 #[] w (Rt (.bool true) w):=by
 have HR:=Hd hr
 have HP:=Hd hp
 have HM:=Hd hm
 clear hr hp hm
 go_enter Tryz.func14,Tryz.ntmps14
 go_upto_region 1 with fail
 go_cut [1,2,3,4] from 22 to 25 (fun u1 u2 u3 u4 wx=>∃ g1 g2 g3 g4,u1 = one g1 ∧ u2 = one g2 ∧ u3 = one g3 ∧ u4 = one g4 ∧ Hid (AwS w g1 g2 g3 g4 wx))
 case first =>
  go_wp2_with (first
   | (go_at_call 55;refine (wW _ _ _ _ _).mono ?_;rintro e w1 ⟨rfl,b1⟩)
   | (go_at_call 56;refine (variable41_x _ _).mono ?_;rintro e w1 ⟨rfl,b1⟩))
  go_meet
  obtain ⟨h1,h2,h3,h4⟩:=jZ w1 (.cells #[.int .u8 1,str [80],.slice none 0 0,.slice none 0 0] 25) (.cells #[.int .u8 1,str [81],.slice none 0 0,.slice none 0 0] 25) (.cells #[.bool true,str [120],.slice none 0 0] 95) (.cells #[.bool true,str [121],.slice none 0 0] 95)
  refine ⟨_,_,_,_,rfl,rfl,rfl,rfl, ?_,h1,h2,h3,h4⟩
  refine aB (aB (aB (aB (by assumption) (by assumption)) (by assumption)) b1) ?_
  exact (((bnew.alloc (by simp) _).alloc (by simp;omega) _).alloc (by simp;omega) _)
 case rest =>
 obtain ⟨g1,g2,g3,g4,rfl,rfl,rfl,rfl,A⟩:=hcut
 obtain ⟨p0,p1,p2,p3,-,-,-,-⟩:=row25' A.out.c1
 obtain ⟨q0,q1,q2,q3,-,-,-,-⟩:=row25' A.out.c2
 go_upto_region 2 with fail
 go_cut [5] from 26 to 29 (fun u5 wx=>∃ g5 g6,u5 = one g5 ∧ Hid (AwS w g1 g2 g3 g4 wx ∧ wx.heap[g5]? = some (.cells #[.int .u8 6,str [],.slice none 0 0,.slice (some ⟨g6,0,none⟩) 2 2] 25 (0,0)) ∧ wx.heap[g6]? = some (.cells #[.int .u8 1,str [80],.slice none 0 0,.slice none 0 0,.int .u8 1,str [81],.slice none 0 0,.slice none 0 0] 25 (0,0))))
 case first =>
  go_wp2_with (go_at_call 47;refine (iV _ _ _ _ _).mono ?_;rintro e w1 ⟨rfl,b1⟩)
  go_meet
  have b2:=aB (bB b1) ((Below.refl _ _).alloc (Nat.le_refl _) (.cells #[.int .u8 6,str [],.slice none 0 0,.slice (some ⟨wc.heap.size,0,none⟩) 2 2] 25))
  exact ⟨_,_,rfl,A.out.below b2,heap_alloc_new _ _,ka _ (kc b1 (heap_alloc_new _ _))⟩
 case rest =>
 obtain ⟨g5,g6,rfl,A2⟩:=hcut
 clear p0 p1 p2 p3 q0 q1 q2 q3 A
 have A:=Hd A2.out.1
 obtain ⟨p0,p1,p2,p3,-,-,-,-⟩:=row25' A.out.c1
 obtain ⟨q0,q1,q2,q3,-,-,-,-⟩:=row25' A.out.c2
 go_upto_region 3 with fail
 go_cut [6,7] from 30 to 42 (fun u6 u7 wx=>u6 = str [105,102,32,80,32,116,104,101,110,32,98,111,116,104,32,81,32,97,110,100,32,110,111,116,32,82] ∧ u7 = .int .i64 0 ∧ Hid (Below wc.heap.size wc wx))
 case first =>
  go_region_held3 (fun w'=>w'.cell? ⟨g1,0,none⟩ = some (.int .u8 1) ∧ w'.cell? ⟨g1,1,none⟩ = some (str [80]) ∧ w'.cell? ⟨g1,2,none⟩ = some (.slice none 0 0) ∧ w'.cell? ⟨g1,3,none⟩ = some (.slice none 0 0) ∧ w'.cell? ⟨g2,0,none⟩ = some (.int .u8 1) ∧ w'.cell? ⟨g2,1,none⟩ = some (str [81]) ∧ w'.cell? ⟨g2,2,none⟩ = some (.slice none 0 0) ∧ w'.cell? ⟨g2,3,none⟩ = some (.slice none 0 0)) (go_keep)
   (first
    | (go_at_call 55;refine (wW _ _ _ _ _).mono ?_;rintro e w1 ⟨rfl,b1⟩;have K:=aA (aB (Below.refl _ _).drew b1);replace p0:=K _ _ p0;replace q0:=K _ _ q0;replace p1:=K _ _ p1;replace q1:=K _ _ q1;replace p2:=K _ _ p2;replace q2:=K _ _ q2;replace p3:=K _ _ p3;replace q3:=K _ _ q3;clear K)
    | (go_at_call_of 47 (Value.int .u8 3);refine (iV _ _ _ _ _).mono ?_;rintro e w2 ⟨rfl,b2⟩;have K:=aA (bB b2);replace p0:=K _ _ p0;replace q0:=K _ _ q0;replace p1:=K _ _ p1;replace q1:=K _ _ q1;replace p2:=K _ _ p2;replace q2:=K _ _ q2;replace p3:=K _ _ p3;replace q3:=K _ _ q3;clear K)
    | (go_at_call_of 47 (Value.int .u8 4);refine (iV _ _ _ _ _).mono ?_;rintro e w3 ⟨rfl,b3⟩;have K:=aA (bB b3);replace p0:=K _ _ p0;replace q0:=K _ _ q0;replace p1:=K _ _ p1;replace q1:=K _ _ q1;replace p2:=K _ _ p2;replace q2:=K _ _ q2;replace p3:=K _ _ p3;replace q3:=K _ _ q3;clear K)
    | (go_at_call_of 47 (Value.int .u8 6);refine (iV _ _ _ _ _).mono ?_;rintro e w4 ⟨rfl,b4⟩;have K:=aA (bB b4);replace p0:=K _ _ p0;replace q0:=K _ _ q0;replace p1:=K _ _ p1;replace q1:=K _ _ q1;replace p2:=K _ _ p2;replace q2:=K _ _ q2;replace p3:=K _ _ p3;replace q3:=K _ _ q3;clear K)
    | (go_at_call 21;refine (wM awA (by decide) _ _ (HR.out.keep (aA (aB A.out.bw (aB (aB (aB (aB (Below.refl _ _).drew b1) (bB b2)) (bB b3)) (bB b4))))) ⟨_,_,_,_,_,_,rfl,nilT _,nJ (f:=awP) (f':=awA2) (kc b4 (heap_alloc_new _ _)) (nilT _) (nilF _) (nilT _) (nJ (f:=awQ) (f':=awA1) (kc b4 (ka _ (kc b3 (heap_alloc_new _ _)))) (nilT _) (nilF _) (nilT _) (pX (f:=awR) (kc b4 (ka _ (kc b3 (ka _ (kc b2 (heap_alloc_new _ _)))))) (nilT _) (nilF _)))⟩).mono ?_;rintro e w5 ⟨rfl,b5⟩;have K:=aA b5;replace p0:=K _ _ p0;replace q0:=K _ _ q0;replace p1:=K _ _ p1;replace q1:=K _ _ q1;replace p2:=K _ _ p2;replace q2:=K _ _ q2;replace p3:=K _ _ p3;replace q3:=K _ _ q3;clear K))
  all_goals go_wp2_with fail
  all_goals go_meet
  exact ⟨congrArg str (by decide +kernel),rfl,aB (aB (aB (aB (aB (Below.refl _ _).drew b1) (bB b2)) (bB b3)) (bB b4)) b5⟩
 case rest =>
 obtain ⟨rfl,rfl,B⟩:=hcut
 have I5:=Hd (And.intro (kc B.out A2.out.2.1) (kc B.out A2.out.2.2))
 have A3:=Hd (A.out.below B.out)
 clear p0 p1 p2 p3 q0 q1 q2 q3 A A2 B
 have A:=Hd A3.out
 clear A3
 have x0:=(box_cell A.out.c3 0).trans rfl
 have x1:=(box_cell A.out.c3 1).trans rfl
 have x2:=(box_cell A.out.c3 2).trans rfl
 have y0:=(box_cell A.out.c4 0).trans rfl
 have y1:=(box_cell A.out.c4 1).trans rfl
 have y2:=(box_cell A.out.c4 2).trans rfl
 go_upto_region 4 with fail
 go_cut [8,9] from 43 to 55 (fun u6 u7 wx=>u6 = str [102,111,114,32,97,108,108,32,120,32,102,111,114,32,115,111,109,101,32,121,32,82,32,111,102,32,120,32,97,110,100,32,102,32,111,102,32,121,32,97,110,100,32,97,32,99,108,111,115,101,32,99,108,111,115,101] ∧ u7 = .int .i64 0 ∧ Hid (Below wc.heap.size wc wx))
 case first =>
  go_region_held3 (fun w'=>w'.cell? ⟨g3,0,none⟩ = some (.bool true) ∧ w'.cell? ⟨g3,1,none⟩ = some (str [120]) ∧ w'.cell? ⟨g3,2,none⟩ = some (.slice none 0 0) ∧ w'.cell? ⟨g4,0,none⟩ = some (.bool true) ∧ w'.cell? ⟨g4,1,none⟩ = some (str [121]) ∧ w'.cell? ⟨g4,2,none⟩ = some (.slice none 0 0)) (go_keep)
   (first
    | (go_at_call_of 58 (Value.string ⟨#[97]⟩);refine (zO [97] _ _ _ _).mono ?_;rintro e w1 ⟨rfl,b1⟩;have K:=aA (aB (Below.refl _ _).drew b1);replace x0:=K _ _ x0;replace x1:=K _ _ x1;replace x2:=K _ _ x2;replace y0:=K _ _ y0;replace y1:=K _ _ y1;replace y2:=K _ _ y2;clear K)
    | (go_at_call_of 58 (Value.string ⟨#[102]⟩);refine (zO [102] _ _ _ _).mono ?_;rintro e w2 ⟨rfl,b2⟩;have K:=aA (bB b2);replace x0:=K _ _ x0;replace x1:=K _ _ x1;replace x2:=K _ _ x2;replace y0:=K _ _ y0;replace y1:=K _ _ y1;replace y2:=K _ _ y2;clear K)
    | (go_at_call 55;refine (wW _ _ _ _ _).mono ?_;rintro e w3 ⟨rfl,b3⟩;have K:=aA (bB b3);replace x0:=K _ _ x0;replace x1:=K _ _ x1;replace x2:=K _ _ x2;replace y0:=K _ _ y0;replace y1:=K _ _ y1;replace y2:=K _ _ y2;clear K)
    | (go_at_call_of 57 (Value.int .u8 8);refine (zS _ _ _ _ _ _ _ _ _ _ _).mono ?_;rintro e w5 ⟨gb,rfl,hb,b5⟩;have K:=aA b5;replace x0:=K _ _ x0;replace x1:=K _ _ x1;replace x2:=K _ _ x2;replace y0:=K _ _ y0;replace y1:=K _ _ y1;replace y2:=K _ _ y2;clear K;have HB5:=Hd hb;clear hb)
    | (go_at_call_of 57 (Value.int .u8 9);refine (zS _ _ _ _ _ _ _ _ _ _ _).mono ?_;rintro e w4 ⟨ga,rfl,ha,b4⟩;have K:=aA b4;replace x0:=K _ _ x0;replace x1:=K _ _ x1;replace x2:=K _ _ x2;replace y0:=K _ _ y0;replace y1:=K _ _ y1;replace y2:=K _ _ y2;clear K;have HA4:=Hd ha;clear ha)
    | (go_at_call 21;refine (wM awB (by decide) _ _ (HR.out.keep (aA (aB A.out.bw (aB (aB (aB (aB (aB (Below.refl _ _).drew b1) (bB b2)) (bB b3)) b4) b5)))) ⟨_,_,_,_,_,_,rfl,nilT _,pX (f:=awB1) HB5.out (nilT _) (pX (f:=awB2) (kc b5 HA4.out) (KK (t:=.mk true [120] []) (t':=.mk false [102] [.mk true [121] [],.mk false [97] []]) (kc b5 (kc b4 (kc b3 (heap_alloc_new _ _)))) (nilT _) (KK (t:=.mk true [121] []) (t':=.mk false [97] []) (kc b5 (kc b4 (kc b3 (ka _ (kc b2 (heap_alloc_new _ _)))))) (nilT _) (nilT _))) (nilF _))⟩).mono ?_;rintro e w6 ⟨rfl,b6⟩;have K:=aA b6;replace x0:=K _ _ x0;replace x1:=K _ _ x1;replace x2:=K _ _ x2;replace y0:=K _ _ y0;replace y1:=K _ _ y1;replace y2:=K _ _ y2;clear K))
  all_goals go_wp2_with fail
  all_goals go_meet
  exact ⟨congrArg str (by decide +kernel),rfl,aB (aB (aB (aB (aB (aB (Below.refl _ _).drew b1) (bB b2)) (bB b3)) b4) b5) b6⟩
 case rest =>
 obtain ⟨rfl,rfl,B⟩:=hcut
 have I5':=Hd (And.intro (kc B.out I5.out.1) (kc B.out I5.out.2))
 have A3:=Hd (A.out.below B.out)
 clear x0 x1 x2 y0 y1 y2 A B I5
 have A:=Hd A3.out
 have I5:=Hd I5'.out
 clear A3 I5'
 obtain ⟨p0,p1,p2,p3,-,-,-,-⟩:=row25' A.out.c1
 go_upto_region 5 with fail
 go_cut [10,11] from 56 to 65 (fun u6 u7 wx=>u6 = str [110,101,99,101,115,115,97,114,105,108,121,32,119,104,105,108,101,32,80,32,117,110,116,105,108,32,102,97,108,115,101] ∧ u7 = .int .i64 0 ∧ Hid (Below wc.heap.size wc wx))
 case first =>
  go_region_held3 (fun w'=>w'.cell? ⟨g1,0,none⟩ = some (.int .u8 1) ∧ w'.cell? ⟨g1,1,none⟩ = some (str [80]) ∧ w'.cell? ⟨g1,2,none⟩ = some (.slice none 0 0) ∧ w'.cell? ⟨g1,3,none⟩ = some (.slice none 0 0)) (go_keep)
   (first
    | (go_at_call_of 47 (Value.int .u8 2);refine (iV _ _ _ _ _).mono ?_;rintro e w1 ⟨rfl,b1⟩;have K:=aA (aB (Below.refl _ _).drew b1);replace p0:=K _ _ p0;replace p1:=K _ _ p1;replace p2:=K _ _ p2;replace p3:=K _ _ p3;clear K)
    | (go_at_call_of 47 (Value.int .u8 14);refine (iV _ _ _ _ _).mono ?_;rintro e w2 ⟨rfl,b2⟩;have K:=aA (bB b2);replace p0:=K _ _ p0;replace p1:=K _ _ p1;replace p2:=K _ _ p2;replace p3:=K _ _ p3;clear K)
    | (go_at_call_of 47 (Value.int .u8 10);refine (iV _ _ _ _ _).mono ?_;rintro e w3 ⟨rfl,b3⟩;have K:=aA (bB b3);replace p0:=K _ _ p0;replace p1:=K _ _ p1;replace p2:=K _ _ p2;replace p3:=K _ _ p3;clear K)
    | (go_at_call 21;refine (wM awC (by decide) _ _ (HR.out.keep (aA (aB A.out.bw (aB (aB (aB (Below.refl _ _).drew b1) (bB b2)) (bB b3))))) ⟨_,_,_,_,_,_,rfl,nilT _,pX (f:=awC1) (kc b3 (heap_alloc_new _ _)) (nilT _) (nJ (f:=awP) (f':=.mk 2 [] [] []) (kc b3 (ka _ (kc b2 (heap_alloc_new _ _)))) (nilT _) (nilF _) (nilT _) (nilF _))⟩).mono ?_;rintro e w4 ⟨rfl,b4⟩;have K:=aA b4;replace p0:=K _ _ p0;replace p1:=K _ _ p1;replace p2:=K _ _ p2;replace p3:=K _ _ p3;clear K))
  all_goals go_wp2_with fail
  all_goals go_meet
  exact ⟨congrArg str (by decide +kernel),rfl,aB (aB (aB (aB (Below.refl _ _).drew b1) (bB b2)) (bB b3)) b4⟩
 case rest =>
 obtain ⟨rfl,rfl,B⟩:=hcut
 have I5':=Hd (And.intro (kc B.out I5.out.1) (kc B.out I5.out.2))
 have A3:=Hd (A.out.below B.out)
 clear p0 p1 p2 p3 A B I5
 have A:=Hd A3.out
 have I5:=Hd I5'.out
 clear A3 I5'
 go_wp2_with fail
 go_loopw [86] (fun i wr=>∃ j : Nat,j ≤ 4 ∧ i = .int .i64 j ∧ Hid (Below wc.heap.size wc wr ∧ wr.heap[wc.heap.size]? = some (.cells DD 9 (0,0)))) (fun i _=>4 - (intOf i).toNat)
 case atStart=>exact ⟨0,by omega,rfl,bnew,heap_alloc_new _ _⟩
 case round =>
  obtain ⟨j,hj,rfl,hs⟩:=hrel
  rcases (show j = 0 ∨ j = 1 ∨ j = 2 ∨ j = 3 ∨ j = 4 by omega) with rfl | rfl | rfl | rfl | rfl
  ·have c : wr.cell? ⟨wc.heap.size,0,none⟩ = some (str [98,111,116,104,32,80,32,111,114,32,81]):=(box_cell hs.out.2 0).trans rfl
   go_wp2_with (go_at_call 43;refine (wB _ 2 (by decide) no1 _ (HM.out.keep (aA (aB A.out.bw hs.out.1))) (HR.out.keep (aA (aB A.out.bw hs.out.1)))).mono ?_;rintro e w1 ⟨rfl,b1⟩;have B1:=Hd b1;clear b1)
   go_roundw
   case rel=>exact ⟨1,by omega,rfl,nG hs.out B1.out (bnew.alloc (by simp) _)⟩
   case measure=>simp [intOf]
  ·have c : wr.cell? ⟨wc.heap.size,1,none⟩ = some (str [105,102,32,80,32,116,104,101,110]):=(box_cell hs.out.2 1).trans rfl
   go_wp2_with (go_at_call 43;refine (wB _ 3 (by decide) no2 _ (HM.out.keep (aA (aB A.out.bw hs.out.1))) (HR.out.keep (aA (aB A.out.bw hs.out.1)))).mono ?_;rintro e w1 ⟨rfl,b1⟩;have B1:=Hd b1;clear b1)
   go_roundw
   case rel=>exact ⟨2,by omega,rfl,nG hs.out B1.out (bnew.alloc (by simp) _)⟩
   case measure=>simp [intOf]
  ·have c : wr.cell? ⟨wc.heap.size,2,none⟩ = some (str [80,32,81]):=(box_cell hs.out.2 2).trans rfl
   go_wp2_with (go_at_call 43;refine (wB _ 1 (by decide) no3 _ (HM.out.keep (aA (aB A.out.bw hs.out.1))) (HR.out.keep (aA (aB A.out.bw hs.out.1)))).mono ?_;rintro e w1 ⟨rfl,b1⟩;have B1:=Hd b1;clear b1)
   go_roundw
   case rel=>exact ⟨3,by omega,rfl,nG hs.out B1.out (bnew.alloc (by simp) _)⟩
   case measure=>simp [intOf]
  ·have c : wr.cell? ⟨wc.heap.size,3,none⟩ = some (str []):=(box_cell hs.out.2 3).trans rfl
   go_wp2_with (go_at_call 43;refine (wB _ 0 (by decide) no4 _ (HM.out.keep (aA (aB A.out.bw hs.out.1))) (HR.out.keep (aA (aB A.out.bw hs.out.1)))).mono ?_;rintro e w1 ⟨rfl,b1⟩;have B1:=Hd b1;clear b1)
   go_roundw
   case rel=>exact ⟨4,by omega,rfl,nG hs.out B1.out (bnew.alloc (by simp) _)⟩
   case measure=>simp [intOf]
  ·have A':=Hd (A.out.below hs.out.1)
   have I5':=Hd (And.intro (kc hs.out.1 I5.out.1) (kc hs.out.1 I5.out.2))
   clear A I5 hs
   obtain ⟨p0,p1,p2,p3,-,-,-,-⟩:=row25' A'.out.c1
   obtain ⟨q0,q1,q2,q3,-,-,-,-⟩:=row25' A'.out.c2
   obtain ⟨i0,i1,i2,i3,-,-,-,-⟩:=row25' I5'.out.1
   go_upto_region 15 with fail
   go_cut [17,7] from 108 to 117 (fun u6 u7 wx=>∃ a n c,u6 = .slice a n c ∧ u7 = .int .i64 0 ∧ Hid (aU wx ((awO.outl 0).map cG) (.slice a n c) ∧ Below wr.heap.size wr wx))
   case first =>
    go_region_held3 (fun w'=>w'.cell? ⟨g1,0,none⟩ = some (.int .u8 1) ∧ w'.cell? ⟨g1,1,none⟩ = some (str [80]) ∧ w'.cell? ⟨g1,2,none⟩ = some (.slice none 0 0) ∧ w'.cell? ⟨g1,3,none⟩ = some (.slice none 0 0) ∧ w'.cell? ⟨g2,0,none⟩ = some (.int .u8 1) ∧ w'.cell? ⟨g2,1,none⟩ = some (str [81]) ∧ w'.cell? ⟨g2,2,none⟩ = some (.slice none 0 0) ∧ w'.cell? ⟨g2,3,none⟩ = some (.slice none 0 0)) (go_keep)
     (first
      | (go_at_call_of 47 (Value.int .u8 3);refine (iV _ _ _ _ _).mono ?_;rintro e w1 ⟨rfl,b1⟩;have K : aR wr w1:=aA (by (repeat (first | exact Below.refl _ _ | (refine aB ?_ (by assumption)) | (refine aB ?_ bnew) | (refine aB ?_ (Below.refl _ _).drew))));have:=K _ _ p0;have:=K _ _ p1;have:=K _ _ p2;have:=K _ _ p3;have:=K _ _ q0;have:=K _ _ q1;have:=K _ _ q2;have:=K _ _ q3;clear K)
      | (go_at_call_of 47 (Value.int .u8 6);refine (iV _ _ _ _ _).mono ?_;rintro e w2 ⟨rfl,b2⟩;have K : aR wr w2:=aA (by (repeat (first | exact Below.refl _ _ | (refine aB ?_ (by assumption)) | (refine aB ?_ bnew) | (refine aB ?_ (Below.refl _ _).drew))));have:=K _ _ p0;have:=K _ _ p1;have:=K _ _ p2;have:=K _ _ p3;have:=K _ _ q0;have:=K _ _ q1;have:=K _ _ q2;have:=K _ _ q3;clear K)
      | (go_at_call 30;refine (Outline_c awO _ _ (HR.out.keep (aA (aB A'.out.bw (by (repeat (first | exact Below.refl _ _ | (refine aB ?_ (by assumption)) | (refine aB ?_ bnew) | (refine aB ?_ (Below.refl _ _).drew))))))) (HP.out.below (aB A'.out.bw (by (repeat (first | exact Below.refl _ _ | (refine aB ?_ (by assumption)) | (refine aB ?_ bnew) | (refine aB ?_ (Below.refl _ _).drew)))))) ⟨_,_,_,_,_,_,rfl,nilT _,nJ (f:=awP) (f':=awN) (by (repeat (first | exact heap_alloc_new _ _ | assumption | (refine kc (by assumption) ?_) | (refine ka _ ?_) | (refine kd ?_)))) (nilT _) (nilF _) (nilT _) (pX (f:=awQ) (by (repeat (first | exact heap_alloc_new _ _ | assumption | (refine kc (by assumption) ?_) | (refine ka _ ?_) | (refine kd ?_)))) (nilT _) (nilF _))⟩ (by decide)).mono ?_;rintro e w3 ⟨v,rfl,own,b3⟩;obtain ⟨va,vn,vc,rfl⟩:=aU.slice own.strsAt;have OW:=Hd own.strsAt;clear own;have K : aR wr w3:=aA (by (repeat (first | exact Below.refl _ _ | (refine aB ?_ (by assumption)) | (refine aB ?_ bnew) | (refine aB ?_ (Below.refl _ _).drew))));have:=K _ _ p0;have:=K _ _ p1;have:=K _ _ p2;have:=K _ _ p3;have:=K _ _ q0;have:=K _ _ q1;have:=K _ _ q2;have:=K _ _ q3;clear K))
    all_goals go_wp2_with fail
    all_goals go_meet
    all_goals exact ⟨_,_,_,rfl,rfl,OW.out,by (repeat (first | exact Below.refl _ _ | (refine aB ?_ (by assumption)) | (refine aB ?_ bnew) | (refine aB ?_ (Below.refl _ _).drew)))⟩
   case rest =>
   obtain ⟨oa,on,oc,rfl,rfl,O⟩:=hcut
   have A0:=Hd A'.out
   have I0:=Hd I5'.out
   clear p0 p1 p2 p3 q0 q1 q2 q3 i0 i1 i2 i3 A' I5'
   have BO:=Hd O.out.2
   have O1:=Hd O.out.1
   clear O
   have A':=Hd (A0.out.below BO.out)
   have I5':=Hd (And.intro (kc BO.out I0.out.1) (kc BO.out I0.out.2))
   clear A0 I0 BO
   obtain ⟨p0,p1,p2,p3,-,-,-,-⟩:=row25' A'.out.c1
   obtain ⟨q0,q1,q2,q3,-,-,-,-⟩:=row25' A'.out.c2
   obtain ⟨i0,i1,i2,i3,-,-,-,-⟩:=row25' I5'.out.1
   have j6:=I5'.out.2
   go_upto_region 16 with fail
   go_cut [18,9] from 118 to 127 (fun u6 u7 wx=>u6 = str [103,105,118,101,110,32,80,44,32,103,105,118,101,110,32,105,102,32,80,32,116,104,101,110,32,81,44,32,115,104,111,119,32,81] ∧ u7 = .int .i64 0 ∧ Hid (Below wc.heap.size wc wx))
   case first =>
    clear j6
    have z1:=(Array.getElem?_eq_some_iff.1 A'.out.c1).1
    have z2:=(Array.getElem?_eq_some_iff.1 A'.out.c2).1
    have z5:=(Array.getElem?_eq_some_iff.1 I5'.out.1).1
    go_wp2_with (go_at_call 22;refine (Claim_c [awP,awI] [awQ] (by decide) (by decide) (by decide) _ _ (HR.out.keep (aA (aB A'.out.bw (by (repeat (first | exact Below.refl _ _ | (refine aB ?_ (by assumption)) | (refine aB ?_ bnew) | (refine aB ?_ (Below.refl _ _).drew))))))) (by have j6:=I5'.out.2;exact ⟨_,_,_,_,_,_,rfl,nJ (f:=awP) (f':=awI) (by (repeat (first | exact heap_alloc_new _ _ | exact heap_alloc2_new _ _ _ | exact heap_alloc2_old _ _ _ | assumption | (refine kc (by assumption) ?_) | (refine ka _ ?_) | (refine kd ?_)))) (nilT _) (nilF _) (nilT _) (nJ (f:=awP) (f':=awQ) (by (repeat (first | exact heap_alloc_new _ _ | exact heap_alloc2_new _ _ _ | exact heap_alloc2_old _ _ _ | assumption | (refine kc (by assumption) ?_) | (refine ka _ ?_) | (refine kd ?_)))) (nilT _) (nilF _) (nilT _) (nilF _)),pX (f:=awQ) (by (repeat (first | exact heap_alloc_new _ _ | exact heap_alloc2_new _ _ _ | exact heap_alloc2_old _ _ _ | assumption | (refine kc (by assumption) ?_) | (refine ka _ ?_) | (refine kd ?_)))) (nilT _) (nilF _)⟩)).mono ?_;rintro e w3 ⟨rfl,b3⟩)
    go_meet
    exact ⟨congrArg str (by decide +kernel),rfl,by (repeat (first | exact Below.refl _ _ | (refine aB ?_ (by assumption)) | (refine aB ?_ bnew) | (refine aB ?_ (Below.refl _ _).drew)))⟩
   case rest =>
   obtain ⟨rfl,rfl,BO⟩:=hcut
   have O2:=Hd (O1.out.keep (aA BO.out))
   clear O1 j6
   have A0:=Hd A'.out
   have I0:=Hd I5'.out
   clear p0 p1 p2 p3 q0 q1 q2 q3 i0 i1 i2 i3 A' I5'
   have A':=Hd (A0.out.below BO.out)
   have I5':=Hd (And.intro (kc BO.out I0.out.1) (kc BO.out I0.out.2))
   clear A0 I0 BO
   obtain ⟨p0,p1,p2,p3,-,-,-,-⟩:=row25' A'.out.c1
   obtain ⟨q0,q1,q2,q3,-,-,-,-⟩:=row25' A'.out.c2
   obtain ⟨i0,i1,i2,i3,-,-,-,-⟩:=row25' I5'.out.1
   have j6:=I5'.out.2
   go_upto_region 17 with fail
   go_cut [19,11] from 128 to 139 (fun u6 u7 wx=>∃ a n c,u6 = .slice a n c ∧ u7 = .int .i64 0 ∧ Hid (aU wx (awPr.lines 0) (.slice a n c) ∧ Below wc.heap.size wc wx))
   case first =>
    go_region_held3 (fun w'=>w'.cell? ⟨g1,0,none⟩ = some (.int .u8 1) ∧ w'.cell? ⟨g1,1,none⟩ = some (str [80]) ∧ w'.cell? ⟨g1,2,none⟩ = some (.slice none 0 0) ∧ w'.cell? ⟨g1,3,none⟩ = some (.slice none 0 0) ∧ w'.cell? ⟨g2,0,none⟩ = some (.int .u8 1) ∧ w'.cell? ⟨g2,1,none⟩ = some (str [81]) ∧ w'.cell? ⟨g2,2,none⟩ = some (.slice none 0 0) ∧ w'.cell? ⟨g2,3,none⟩ = some (.slice none 0 0) ∧ w'.cell? ⟨g5,0,none⟩ = some (.int .u8 6) ∧ w'.cell? ⟨g5,1,none⟩ = some (str []) ∧ w'.cell? ⟨g5,2,none⟩ = some (.slice none 0 0) ∧ w'.cell? ⟨g5,3,none⟩ = some (.slice (some ⟨g6,0,none⟩) 2 2)) (go_keep)
     (first
      | (go_at_call_of 60 (Value.int .i64 2);refine (FF _ _ _ _ _ _ _ _ _ _).mono ?_;rintro e w1 ⟨rfl,b1⟩;have K : aR wc w1:=aA (by (repeat (first | exact Below.refl _ _ | (refine aB ?_ (by assumption)) | (refine aB ?_ bnew) | (refine aB ?_ (Below.refl _ _).drew))));have:=K _ _ p0;have:=K _ _ p1;have:=K _ _ p2;have:=K _ _ p3;have:=K _ _ q0;have:=K _ _ q1;have:=K _ _ q2;have:=K _ _ q3;have:=K _ _ i0;have:=K _ _ i1;have:=K _ _ i2;have:=K _ _ i3;clear K)
      | (go_at_call_of 60 (Value.int .i64 1);refine (FF _ _ _ _ _ _ _ _ _ _).mono ?_;rintro e w2 ⟨rfl,b2⟩;have K : aR wc w2:=aA (by (repeat (first | exact Below.refl _ _ | (refine aB ?_ (by assumption)) | (refine aB ?_ bnew) | (refine aB ?_ (Below.refl _ _).drew))));have:=K _ _ p0;have:=K _ _ p1;have:=K _ _ p2;have:=K _ _ p3;have:=K _ _ q0;have:=K _ _ q1;have:=K _ _ q2;have:=K _ _ q3;have:=K _ _ i0;have:=K _ _ i1;have:=K _ _ i2;have:=K _ _ i3;clear K)
      | (go_at_call 59;refine (step41_x [105,109,112,69] _ _ _ _ _ _ _ _ _ _ _ _ _ _ _).mono ?_;rintro e w3 ⟨rfl,b3⟩;have K : aR wc w3:=aA (by (repeat (first | exact Below.refl _ _ | (refine aB ?_ (by assumption)) | (refine aB ?_ bnew) | (refine aB ?_ (Below.refl _ _).drew))));have:=K _ _ p0;have:=K _ _ p1;have:=K _ _ p2;have:=K _ _ p3;have:=K _ _ q0;have:=K _ _ q1;have:=K _ _ q2;have:=K _ _ q3;have:=K _ _ i0;have:=K _ _ i1;have:=K _ _ i2;have:=K _ _ i3;clear K)
      | (go_at_call 24;refine (IP awPr _ _ (HR.out.keep (aA (aB A'.out.bw (by (repeat (first | exact Below.refl _ _ | (refine aB ?_ (by assumption)) | (refine aB ?_ bnew) | (refine aB ?_ (Below.refl _ _).drew))))))) (HP.out.below (aB A'.out.bw (by (repeat (first | exact Below.refl _ _ | (refine aB ?_ (by assumption)) | (refine aB ?_ bnew) | (refine aB ?_ (Below.refl _ _).drew)))))) ⟨_,_,_,_,_,_,_,_,_,_,_,_,rfl,nilT _,nilF _,pfs_of2 (p:=.mk [] awI 2 [] []) (p':=.mk [] awP 1 [] []) (by (repeat (first | exact heap_alloc_new _ _ | exact heap_alloc2_new _ _ _ | exact heap_alloc2_old _ _ _ | assumption | (refine kc (by assumption) ?_) | (refine ka _ ?_) | (refine kd ?_)))) (nilT _) (nJ (f:=awP) (f':=awQ) (by (repeat (first | exact heap_alloc_new _ _ | exact heap_alloc2_new _ _ _ | exact heap_alloc2_old _ _ _ | assumption | (refine kc (by assumption) ?_) | (refine ka _ ?_) | (refine kd ?_)))) (nilT _) (nilF _) (nilT _) (nilF _)) (nilP _) (nilM _) (nilT _) (nilF _) (nilP _) (nilM _),marks_of2 (by (repeat (first | exact heap_alloc_new _ _ | exact heap_alloc2_new _ _ _ | exact heap_alloc2_old _ _ _ | assumption | (refine kc (by assumption) ?_) | (refine ka _ ?_) | (refine kd ?_))))⟩ (by decide)).mono ?_;rintro e w4 ⟨v,rfl,own,b4⟩;obtain ⟨va,vn,vc,rfl⟩:=aU.slice own.strsAt;have OW:=Hd own.strsAt;clear own;have K : aR wc w4:=aA (by (repeat (first | exact Below.refl _ _ | (refine aB ?_ (by assumption)) | (refine aB ?_ bnew) | (refine aB ?_ (Below.refl _ _).drew))));have:=K _ _ p0;have:=K _ _ p1;have:=K _ _ p2;have:=K _ _ p3;have:=K _ _ q0;have:=K _ _ q1;have:=K _ _ q2;have:=K _ _ q3;have:=K _ _ i0;have:=K _ _ i1;have:=K _ _ i2;have:=K _ _ i3;clear K))
    all_goals go_wp2_with fail
    all_goals go_meet
    all_goals exact ⟨_,_,_,rfl,rfl,OW.out,by (repeat (first | exact Below.refl _ _ | (refine aB ?_ (by assumption)) | (refine aB ?_ bnew) | (refine aB ?_ (Below.refl _ _).drew)))⟩
   case rest =>
   obtain ⟨ra,rn,rc,rfl,rfl,O⟩:=hcut
   have A0:=Hd A'.out
   have I0:=Hd I5'.out
   clear j6 p0 p1 p2 p3 q0 q1 q2 q3 i0 i1 i2 i3 A' I5'
   have BO:=Hd O.out.2
   have O3:=Hd (O2.out.keep (aA BO.out))
   have R1:=Hd O.out.1
   have A':=Hd (A0.out.below BO.out)
   clear O O2 BO A0 I0
   go_upto_region 18 with fail
   go_cut [20,21] from 140 to 147 (fun u6 u7 wx=>∃ a n c,u6 = .slice a n c ∧ u7 = .int .i64 0 ∧ Hid (aU wx fH (.slice a n c) ∧ Below wc.heap.size wc wx))
   case first =>
    go_wp2_with (go_at_call 16;refine (Model_c _ _ _ ⟨(box_cell (heap_alloc2_old _ _ _) 0).trans rfl,(box_cell (heap_alloc2_old _ _ _) 1).trans rfl⟩ ⟨(box_cell (heap_alloc2_new _ _ _) 0).trans rfl,(box_cell (heap_alloc2_new _ _ _) 1).trans rfl,(box_cell (heap_alloc2_new _ _ _) 2).trans rfl⟩ (HP.out.below (aB A'.out.bw (by (repeat (first | exact Below.refl _ _ | (refine aB ?_ (by assumption)) | (refine aB ?_ bnew) | (refine aB ?_ (Below.refl _ _).drew))))))).mono ?_;rintro e w4 ⟨v,rfl,own,b4⟩;obtain ⟨va,vn,vc,rfl⟩:=aU.slice own.strsAt;have OW:=Hd own.strsAt;clear own)
    all_goals go_meet
    all_goals exact ⟨_,_,_,rfl,rfl,OW.out,by (repeat (first | exact Below.refl _ _ | (refine aB ?_ (by assumption)) | (refine aB ?_ bnew) | (refine aB ?_ (Below.refl _ _).drew)))⟩
   case rest =>
   obtain ⟨ma,mn,mc,rfl,rfl,O⟩:=hcut
   have BO:=Hd O.out.2
   have M1:=Hd O.out.1
   have O4:=Hd (O3.out.keep (aA BO.out))
   have R2:=Hd (R1.out.keep (aA BO.out))
   have A0:=Hd (A'.out.below BO.out)
   clear O O3 R1 BO A'
   go_wp2_with (first
    | (go_at_call_of 19 (Value.slice oa on oc);refine (iR _ awL1 _ _ _ _ _ _ _ (O4.out.keep (aA (by (repeat (first | exact Below.refl _ _ | (refine aB ?_ (by assumption)) | (refine aB ?_ bnew) | (refine aB ?_ (Below.refl _ _).drew)))))) (yU (l:=awL1) (by (repeat (first | exact heap_alloc_new _ _ | exact heap_alloc2_new _ _ _ | exact heap_alloc2_old _ _ _ | assumption | (refine kc (by assumption) ?_) | (refine ka _ ?_) | (refine kd ?_)))))).mono ?_;rintro e w1 ⟨he,b1⟩;obtain rfl : e = .returned (.bool true):=by rw [he];exact congrArg (fun b=>Ending.returned (.bool b)) awE1)
    | (go_at_call_of 19 (Value.slice ra rn rc);refine (iR _ awL2 _ _ _ _ _ _ _ (R2.out.keep (aA (by (repeat (first | exact Below.refl _ _ | (refine aB ?_ (by assumption)) | (refine aB ?_ bnew) | (refine aB ?_ (Below.refl _ _).drew)))))) (yU (l:=awL2) (by (repeat (first | exact heap_alloc_new _ _ | exact heap_alloc2_new _ _ _ | exact heap_alloc2_old _ _ _ | assumption | (refine kc (by assumption) ?_) | (refine ka _ ?_) | (refine kd ?_)))))).mono ?_;rintro e w2 ⟨he,b2⟩;obtain rfl : e = .returned (.bool true):=by rw [he];exact congrArg (fun b=>Ending.returned (.bool b)) awE2)
    | (go_at_call_of 19 (Value.slice ma mn mc);refine (iR _ fH _ _ _ _ _ _ _ (M1.out.keep (aA (by (repeat (first | exact Below.refl _ _ | (refine aB ?_ (by assumption)) | (refine aB ?_ bnew) | (refine aB ?_ (Below.refl _ _).drew)))))) (yU (l:=fH) (by (repeat (first | exact heap_alloc_new _ _ | exact heap_alloc2_new _ _ _ | exact heap_alloc2_old _ _ _ | assumption | (refine kc (by assumption) ?_) | (refine ka _ ?_) | (refine kd ?_)))))).mono ?_;rintro e w3 ⟨he,b3⟩;obtain rfl : e = .returned (.bool true):=by rw [he];exact congrArg (fun b=>Ending.returned (.bool b)) awE3))
   go_ret
   exact ⟨rfl,aB A0.out.bw (by (repeat (first | exact Below.refl _ _ | (refine aB ?_ (by assumption)) | (refine aB ?_ bnew) | (refine aB ?_ (Below.refl _ _).drew))))⟩
end Go.Proofs.YtcandidgaegghaaGreatDoor
