/- subst.least at two sets: the least of x1, x2, .. that is in neither. Conditions: those of the statement; strconv's table lies as laid. -/
import Derived.Test.YtppfalbnhnpbnaaGreatDoorMtBC
import Derived.Test.YtppfalbnhnpbnaaGreatDoorRdCC
import Derived.WalkMore
import Derived.Deep.LoopGhost
import Derived.Test.YtppfalbnhnpbnaaGreatDoorBuiltAC
import Derived.Deep.RegionLawGrows
import Derived.Outline
import Derived.Deep.CutBlock
import Derived.IntWalk
import Derived.Deep.DrawnRows
import Derived.Test.YtppfalbnhnpbnaaGreatDoorRegUC
set_option linter.unusedSimpArgs false
set_option linter.unusedVariables false
namespace Go.Proofs.YtppfalbnhnpbnaaGreatDoor
open Go Go.RowKit Ly
set_option maxRecDepth 10000
theorem zH {T : List Bs} {k : Nat} (hk : k < dO T) : (xN (k + 1) ∈ T ∧ k + 1 < dO T) ∨ (xN (k + 1) ∉ T ∧ xN (k + 1) = least T):=by
 by_cases h : k + 1 = dO T
 ·right
  unfold least
  rw [h]
  exact ⟨mT T,rfl⟩
 ·left
  exact ⟨nS T (k + 1) (by omega) (by omega),by omega⟩
theorem AP (T1 : Bs) : (⟨#[120]⟩ ++ ⟨T1.toArray⟩ : ByteArray) = ⟨(120 :: T1).toArray⟩:=by
 apply ByteArray.ext
 simp
set_option maxHeartbeats 4000000 in
theorem least_c (l1 l2 : List Bs) (m1 m2 n1 n2 b : Nat) (w : World) (hp : cK w) (h1 : cQ w m1 n1 l1) (h2 : cQ w m2 n2 l2) (hb : w.heap[b]? = some (.cells #[.map (some m1),.map (some m2)] 93 (0,0))) (hl : l1.length + l2.length ≤ 500000) :
  Calls Tryz.prog 99 #[.slice (some ⟨b,0,none⟩) 2 2] w fun e w'=>e = .returned (str (least (l1 ++ l2))) ∧ Below w.heap.size w w':=by
 have HP:=Lib.hid hp
 have H1:=Lib.hid h1
 have H2:=Lib.hid h2
 have HB:=Lib.hid hb
 obtain ⟨T,hT⟩ : ∃ T,l1 ++ l2 = T:=⟨_,rfl⟩
 have TL : Hid (T.length ≤ 500000):=by rw [← hT];show (l1 ++ l2).length ≤ 500000;simp;omega
 have HT:=Lib.hid hT
 rw [hT]
 have LP:=rE T
 have LE : Hid (dO T ≤ 500002):=by have:=oK T;have:=TL.out;show _ ≤ _;omega
 clear hp h1 h2 hb hl hT
 go_enter Tryz.func99,Tryz.ntmps99
 go_wp2;go_step3;go_wp2;go_step3;go_wp2
 go_loopg [3] (dO T) (fun g n wr=>∃ k : Nat,n = .int .i64 k ∧ Hid (k + g = dO T ∧ 0 < g ∧ Below w.heap.size w wr))
 case atStart=>exact ⟨0,rfl,by omega,LP,Below.refl _ _⟩
 case round =>
  obtain ⟨k,rfl,hs⟩:=hrel
  have B0:=Lib.hid hs.out.2.2
  obtain ⟨G,rfl⟩ : ∃ G,gk = G + 1:=⟨gk - 1,by have:=hs.out.2.1;omega⟩
  have HG:=Lib.hid hs.out.1
  have hk : k < dO T:=by have:=hs.out.1;have:=hs.out.2.1;omega
  have HK:=Lib.hid hk
  have k0 : k ≤ 500002:=by have:=LE.out;omega
  obtain ⟨T1,hT1⟩ : ∃ T1,Lib.itoa ((k : Int) + 1) = T1:=⟨_,rfl⟩
  have IT : Hid (∀ w,cK w → Calls Tryz.prog 71 #[.int .i64 ((k : Int) + 1)] w fun e w'=>e = .returned (str T1) ∧ Below w.heap.size w w'):=fun w hp=>by rw [← hT1];exact wQ _ (by omega) (by omega) w hp
  have tl : T1.length ≤ 7:=by rw [← hT1];exact itoa_len (by omega) (by omega)
  have NE : Hid (xN (k + 1) = 120 :: T1):=by rw [← hT1];rfl
  have OK : Hid (okS (xN (k + 1))):=by show (xN (k + 1)).length ≤ maxLen;rw [NE.out];simp [maxLen];omega
  have LK : Hid (∀ W,Below w.heap.size w W → (Instr.lookup 93 (.map (some m1)) (.string (⟨#[120]⟩ ++ ⟨T1.toArray⟩)) false).run Tryz.prog W = .ok (.bool (decide (xN (k + 1) ∈ l1))) W ∧ (Instr.lookup 93 (.map (some m2)) (.string (⟨#[120]⟩ ++ ⟨T1.toArray⟩)) false).run Tryz.prog W = .ok (.bool (decide (xN (k + 1) ∈ l2))) W ∧ W.cell? ⟨b,0,none⟩ = some (.map (some m1)) ∧ W.cell? ⟨b,1,none⟩ = some (.map (some m2))):=fun W hb=>by
   have e : (Value.string (⟨#[120]⟩ ++ ⟨T1.toArray⟩)) = str (xN (k + 1)):=by rw [AP,NE.out]
   have g:=(hb.block _ (Array.getElem?_eq_some_iff.1 HB.out).1).trans HB.out
   rw [e]
   exact ⟨(H1.out.heap (hb.block _ H1.out.lt)).look OK.out,(H2.out.heap (hb.block _ H2.out.lt)).look OK.out,(bE g 0).trans rfl,(bE g 1).trans rfl⟩
  obtain ⟨B1,hB1⟩ : ∃ B,decide (xN (k + 1) ∈ l1) = B:=⟨_,rfl⟩
  obtain ⟨B2,hB2⟩ : ∃ B,decide (xN (k + 1) ∈ l2) = B:=⟨_,rfl⟩
  rw [hB1,hB2] at LK
  have MX : Hid ((B1 = true ∨ B2 = true) → k + 1 < dO T):=fun h=>by
   rcases zH hk with h3 | h3
   ·exact h3.2
   ·exfalso
    rw [← HT.out,List.mem_append] at h3
    rcases h with h | h
    ·rw [h] at hB1;exact h3.1 (.inl (by simpa using hB1))
    ·rw [h] at hB2;exact h3.1 (.inr (by simpa using hB2))
  have MY : Hid (B1 = false → B2 = false → 120 :: T1 = least T):=fun h h'=>by
   rcases zH hk with h3 | h3
   ·exfalso
    rw [← HT.out,List.mem_append] at h3
    rw [h] at hB1;rw [h'] at hB2
    rcases h3.1 with h4 | h4
    ·simp [h4] at hB1
    ·simp [h4] at hB2
   ·rw [← NE.out];exact h3.2
  clear hs hk hT1 hB1 hB2
  go_wp2_with (go_at_call 71;refine (IT.out _ (HP.out.below B0.out)).mono ?_;rintro e w2 ⟨rfl,b2⟩;have B3 : Hid (Below w.heap.size w w2):=B0.out.trans (b2.mono B0.out.size);obtain ⟨lk1,lk2,c0,c1⟩:=LK.out _ B3.out;clear b2)
  clear IT LK
  go_loopg [14] 2 (fun g i wq=>∃ j : Nat,j + g = 2 ∧ i = .int .i64 j ∧ Hid (1 ≤ j → B1 = false) ∧ Hid (2 ≤ j → B2 = false) ∧ w2 = wq)
  case atStart=>exact ⟨0,rfl,rfl,fun h=>absurd h (by decide),fun h=>absurd h (by decide),rfl⟩
  case round =>
   obtain ⟨j,hj,rfl,hj1,hj2,rfl⟩:=hrel
   rcases (show j = 0 ∨ j = 1 ∨ j = 2 by omega) with rfl | rfl | rfl
   ·cases B1
    ·go_wp2
     go_roundg 1
     case rel=>exact ⟨1,rfl,by go_num,fun _=>by trivial,fun h=>absurd h (by decide),by trivial⟩
     case measure=>omega
    ·go_wp2
     go_roundg G
     case rel=>exact ⟨k + 1,by go_num,by have:=HG.out;omega,by have:=MX.out (by simp);have:=HG.out;omega,B3.out⟩
     case measure=>omega
   ·cases B2
    ·go_wp2
     go_roundg 0
     case rel=>exact ⟨2,rfl,by go_num,fun _=>hj1.out (Nat.le_refl _),fun _=>by trivial,by trivial⟩
     case measure=>omega
    ·go_wp2
     go_roundg G
     case rel=>exact ⟨k + 1,by go_num,by have:=HG.out;omega,by have:=MX.out (by simp);have:=HG.out;omega,B3.out⟩
     case measure=>omega
   ·have hb1:=hj1.out (by decide)
    have hb2:=hj2.out (by decide)
    subst hb1 hb2
    have ML:=Lib.hid (MY.out rfl rfl)
    go_wp2
    try rw [Exit.noGoto_ret]
    go_ret
    exact ⟨by rw [AP,ML.out];rfl,B3.out⟩
end Go.Proofs.YtppfalbnhnpbnaaGreatDoor
namespace Go.Proofs.YtppfalbnhnpbnaaGreatDoor
open Go Go.RowKit Ly
set_option maxRecDepth 10000
set_option maxHeartbeats 2000000
theorem fK (o : Int) (a : Option Addr) (k c : Nat) (w : World) : Calls Tryz.prog 17 #[.int .u8 o,.slice a k c] w fun e w'=>e = .returned (.agg #[.int .u8 o,str [],.slice none 0 0,.slice a k c]) ∧ Below w.heap.size w w':=by
 go_enter Tryz.func17,Tryz.ntmps17
 go_wp2
 exact bodyPost_ret (v:=.agg #[.int .u8 o,str [],.slice none 0 0,.slice a k c]) (by simp [results,Tryz.results17,go_sem]) rfl ⟨rfl,(Below.refl _ _).alloc (Nat.le_refl _) _⟩
theorem dR (n : Bs) (a : Option Addr) (k c : Nat) (w : World) : Calls Tryz.prog 18 #[str n,.slice a k c] w fun e w'=>e = .returned (.agg #[.int .u8 1,str n,.slice a k c,.slice none 0 0]) ∧ Below w.heap.size w w':=by
 go_enter Tryz.func18,Tryz.ntmps18
 go_wp2
 exact bodyPost_ret (v:=.agg #[.int .u8 1,str n,.slice a k c,.slice none 0 0]) (by simp [results,Tryz.results18,go_sem]) rfl ⟨rfl,(Below.refl _ _).alloc (Nat.le_refl _) _⟩
theorem fH (w : World) (a b c d : Value) (t : TypeId) : ∀ (j : Nat) (u : Value),[a,b,c,d][j]? = some u → (w.alloc (.cells #[a,b,c,d] t)).cell? ((⟨w.heap.size,0,none⟩ : Addr).add j) = some u:=by
 intro j u hu
 have hg:=heap_alloc_new w (.cells #[a,b,c,d] t)
 rw [show ((⟨w.heap.size,0,none⟩ : Addr).add j) = ⟨w.heap.size,j,none⟩ by simp [Addr.add];omega,bE hg]
 simpa using hu
theorem cM {op : Int} {nm : Bs} {a b : Option Addr} {n c m d : Nat} : ∀ u ∈ [Value.int .u8 op,str nm,.slice a n c,.slice b m d],u.oneCell' = true:=by
 intro u hu
 simp at hu
 rcases hu with rfl | rfl | rfl | rfl <;> rfl
def BoundY (o : Int) (n : Bs) (cs : Array Value) (w : World) (e : Ending) (w' : World) : Prop:=∃ g,e = .returned (.agg #[.int .u8 o,str n,.slice none 0 0,.slice (some ⟨g,0,none⟩) 1 1]) ∧ w'.heap[g]? = some (.cells cs 40 (0,0)) ∧ Below w.heap.size w w' ∧ w.heap.size ≤ g
theorem sO (o : Int) (n : Bs) (o' : Int) (n' : Bs) (a : Option Addr) (k c : Nat) (b : Option Addr) (m d : Nat) (w : World) :
  Calls Tryz.prog 32 #[.int .u8 o,str n,.agg #[.int .u8 o',str n',.slice a k c,.slice b m d]] w (BoundY o n #[.int .u8 o',str n',.slice a k c,.slice b m d] w):=by
 have h3 : Hid ((((w.alloc (.cells #[.int .u8 o',str n',.slice a k c,.slice b m d] 40)).alloc (.cells #[.int .u8 o,str n,.slice none 0 0,.slice (some ⟨w.heap.size + 1 + 1,0,none⟩) 1 1] 40)).alloc (.cells #[.int .u8 o',str n',.slice a k c,.slice b m d] 40)).heap[w.heap.size + 1 + 1]? = some (.cells #[.int .u8 o',str n',.slice a k c,.slice b m d] 40 (0,0))):=by
  have:=heap_alloc_new ((w.alloc (.cells #[.int .u8 o',str n',.slice a k c,.slice b m d] 40)).alloc (.cells #[.int .u8 o,str n,.slice none 0 0,.slice (some ⟨w.heap.size + 1 + 1,0,none⟩) 1 1] 40)) (.cells #[.int .u8 o',str n',.slice a k c,.slice b m d] 40)
  simpa [Hid] using this
 go_enter Tryz.func32,Tryz.ntmps32
 go_wp2
 refine bodyPost_ret (v:=.agg #[.int .u8 o,str n,.slice none 0 0,.slice (some ⟨w.heap.size + 1 + 1,0,none⟩) 1 1]) (by simp [results,Tryz.results32,go_sem]) rfl ⟨_,rfl, ?_, ?_,by omega⟩
 ·exact h3.out
 ·exact (((Below.refl _ _).alloc (Nat.le_refl _) _).alloc (by simp) _).alloc (by simp;omega) _
theorem tF {P : Program} {md : Region.Mode} {ops : Array Oper} {Q : Exit → Act → World → Prop} {S S' : World → Prop} (h : ∀ w,S' w → S w) : ∀ (fuel : Nat) (listed : Array Bool) (a : Act) (w : World),wpAnyH P md ops Q S' fuel listed a w → wpAnyH P md ops Q S fuel listed a w
 | 0,_,_,_,hk=>hk
 | fuel + 1,_,_,_,hk=>⟨hk.1,fun i hi=>wpOp_mono (fun a' w' q=>⟨h w' q.1,tF h fuel _ a' w' q.2⟩) (hk.2 i hi)⟩
theorem dM {P : Program} {md : Region.Mode} {ops : Array Oper} {Q : Exit → Act → World → Prop} {wc w : World} {fuel : Nat} {listed : Array Bool} {a : Act} (h : bI wc w) (hk : bI w w → wpAnyH P md ops Q (fun w'=>bI w w') fuel listed a w) : wpAnyH P md ops Q (fun w'=>bI wc w') fuel listed a w :=
 tF (fun _ k=>h.trans k) _ _ _ _ (hk (bI.refl w))
theorem qZ {w1 w2 w3 : World} (h : w1.heap.size ≤ w2.heap.size) (b : Below w2.heap.size w2 w3) : bI (hide (lo w1) w2) (hide (lo w1) w3):=aH fun k h1 h2=>⟨h2,b.block k h1⟩
theorem tms_two_hid {wx w1 w2 w3 : World} {t t' : Tm} {a a' : Option Addr} {n c n' c' : Nat} {ty : TypeId} (b1 : Below wx.heap.size wx w1) (b2 : Below w1.heap.size w1 w2) (b3 : Below (w2.alloc (.cells #[.bool t.v,str t.name,.slice a n c,.bool t'.v,str t'.name,.slice a' n' c'] 38)).heap.size (w2.alloc (.cells #[.bool t.v,str t.name,.slice a n c,.bool t'.v,str t'.name,.slice a' n' c'] 38)) w3)
  (h1 : bG (hide (lo wx) w1) t.args (.slice a n c)) (h2 : bG (hide (lo w1) w2) t'.args (.slice a' n' c')) : bG (hide (lo wx) w3) [t,t'] (.slice (some ⟨w2.heap.size,0,none⟩) 2 2):=by
 have b23:=bV b3
 refine yH (t:=t) (t':=t') ?_ (h1.keep (qZ b1.size (aG b2 b23))) (h2.keep (rF b1.size fun k h1 h2=>b23.block k h2))
 rw [gX _ _ _ (by simp [lo];have:=b1.size;have:=b2.size;omega)]
 exact kc b3 (heap_alloc_new _ _)
theorem gC {wx w1 w2 : World} {t : Tm} {a : Option Addr} {n c : Nat} {g : Nat} {ty : TypeId} (b1 : Below wx.heap.size wx w1) (b2 : Below w1.heap.size w1 w2) (hg : w2.heap[g]? = some (.cells #[.bool t.v,str t.name,.slice a n c] ty (0,0))) (hl : wx.heap.size ≤ g)
  (h1 : bG (hide (lo wx) w1) t.args (.slice a n c)) : bG (hide (lo wx) w2) [t] (.slice (some ⟨g,0,none⟩) 1 1):=by
 refine uZ (t:=t) (ty:=ty) ?_ (h1.keep (qZ b1.size b2))
 rw [gX _ _ _ (by simp [lo];omega)]
 exact hg
def RetF (r : Fm) (w : World) (e : Ending) (w' : World) : Prop:=∃ a n c b m d,e = .returned (.agg #[.int .u8 r.op,str r.name,.slice a n c,.slice b m d]) ∧ bG (hide (lo w) w') r.args (.slice a n c) ∧ aN (hide (lo w) w') r.sub (.slice b m d) ∧ Below w.heap.size w w'
theorem lo1_lo {w w3 w4 : World} (h : ∀ k,k < w3.heap.size → k ≠ w.heap.size → w4.heap[k]? = w3.heap[k]?) : bI (hide (lo1 w) w3) (hide (lo w) w4):=aH fun k h1 h2=>by
 simp only [lo1,lo,decide_eq_false_iff_not,Nat.not_lt] at h2 ⊢
 exact ⟨by omega,h k h1 (by omega)⟩
theorem sP {w w3 : World} {f r : Fm} {a b : Option Addr} {n c m d : Nat} {tmps : Array Value} (B : Below w.heap.size w w3) (hg : w3.heap[w.heap.size]? = some (.cells #[.int .u8 0,str [],.slice none 0 0,.slice none 0 0] 40 (0,0)))
  (ht : bG (hide (lo1 w) w3) f.args (.slice a n c)) (hs : aN (hide (lo1 w) w3) f.sub (.slice b m d)) (hr : r = f) (h2 : tmps.getD 2 undef = one w.heap.size) :
  bodyPost Tryz.prog Tryz.f19 (RetF r w) .ret ⟨tmps,[]⟩ ((((w3.setCell ⟨w.heap.size,0,none⟩ (.int .u8 f.op)).setCell ⟨w.heap.size,1,none⟩ (str f.name)).setCell ⟨w.heap.size,2,none⟩ (.slice a n c)).setCell ⟨w.heap.size,3,none⟩ (.slice b m d)):=by
 have g1:=aC (o:=0) (u:=.int .u8 f.op) hg
 have g2:=aC (o:=1) (u:=str f.name) g1
 have g3:=aC (o:=2) (u:=.slice a n c) g2
 have g4:=aC (o:=3) (u:=.slice b m d) g3
 refine bodyPost_ret (jV rfl _ _ w.heap.size _ _ _ _ (0,0) h2 g4) rfl ?_
 subst hr
 have K : bI (hide (lo1 w) w3) (hide (lo w) ((((w3.setCell ⟨w.heap.size,0,none⟩ (.int .u8 r.op)).setCell ⟨w.heap.size,1,none⟩ (str r.name)).setCell ⟨w.heap.size,2,none⟩ (.slice a n c)).setCell ⟨w.heap.size,3,none⟩ (.slice b m d))):=lo1_lo fun k _ hne=>by
  rw [Below.heap_setCell _ _ _ _ hne,Below.heap_setCell _ _ _ _ hne,Below.heap_setCell _ _ _ _ hne,Below.heap_setCell _ _ _ _ hne]
 exact ⟨_,_,_,_,_,_,rfl,ht.keep K,hs.keep K,(((B.setCell (by simp) _).setCell (by simp) _).setCell (by simp) _).setCell (by simp) _⟩
def p8 (w wc : World) : Nat → Bool:=fun k=>lo1 w k || decide (k = wc.heap.size)
structure URel (w wc : World) (F : Fm) (a : Option Addr) (n c : Nat) (b : Option Addr) (m d : Nat) (wr : World) : Prop where
 bw : Below wc.heap.size wc wr
 cell : wr.heap[wc.heap.size]? = some (.cells #[.int .u8 F.op,str F.name,.slice a n c,.slice b m d] 40 (0,0))
 ht : bG (hide (p8 w wc) wr) F.args (.slice a n c)
 hs : aN (hide (p8 w wc) wr) F.sub (.slice b m d)
theorem uQ {w wc wr : World} {sa : Option Addr} {N sc g i : Nat} {f : Fm} {a b : Option Addr} {n c m d : Nat} (E : Elem w wc sa N sc g i f a n c b m d) (h : Below wc.heap.size wc wr) :
  bG (hide (p8 w wc) wr) f.args (.slice a n c) ∧ aN (hide (p8 w wc) wr) f.sub (.slice b m d):=by
 have K : bI (hide (fun k=>lo1 w k || decide ((Value.slice sa N sc).ownBlock = some k)) wc) (hide (p8 w wc) wr):=aH fun k h1 h2=>by
  simp only [p8,Bool.or_eq_false_iff,decide_eq_false_iff_not] at h2 ⊢
  exact ⟨⟨h2.1,by omega⟩,h.block k h1⟩
 exact ⟨E.ht.keep K,E.hs.keep K⟩
theorem urel_first {w wc : World} {sa : Option Addr} {N sc g i : Nat} {f : Fm} {a b : Option Addr} {n c m d : Nat} (E : Elem w wc sa N sc g i f a n c b m d) : URel w wc f a n c b m d (wc.alloc (.cells #[.int .u8 f.op,str f.name,.slice a n c,.slice b m d] 40)):=by
 have B : Below wc.heap.size wc (wc.alloc (.cells #[.int .u8 f.op,str f.name,.slice a n c,.slice b m d] 40)):=(Below.refl _ _).alloc (Nat.le_refl _) _
 exact ⟨B,heap_alloc_new _ _,(uQ E B).1,(uQ E B).2⟩
theorem urel_next {w wc wr w1 : World} {sa : Option Addr} {N sc g i h : Nat} {F f : Fm} {a b a' b' : Option Addr} {n c m d n' c' m' d' : Nat} (U : URel w wc F a n c b m d wr) (hw : w.heap.size + 1 ≤ wc.heap.size) (E : Elem w wc sa N sc g i f a' n' c' b' m' d') (b1 : Below wr.heap.size wr w1)
  (hh : w1.heap[h]? = some (.cells #[.int .u8 F.op,str F.name,.slice a n c,.slice b m d,.int .u8 f.op,str f.name,.slice a' n' c',.slice b' m' d'] 40 (0,0))) (hl : wr.heap.size ≤ h) :
  URel w wc (.mk 14 [] [] [F,f]) none 0 0 (some ⟨h,0,none⟩) 2 2 ((((w1.setCell ⟨wc.heap.size,0,none⟩ (.int .u8 14)).setCell ⟨wc.heap.size,1,none⟩ (str [])).setCell ⟨wc.heap.size,2,none⟩ (.slice none 0 0)).setCell ⟨wc.heap.size,3,none⟩ (.slice (some ⟨h,0,none⟩) 2 2)):=by
 have z:=(Array.getElem?_eq_some_iff.1 U.cell).1
 have B1 : Below wc.heap.size wc w1:=aG U.bw b1
 have g0:=(b1.block _ z).trans U.cell
 have g1:=aC (o:=0) (u:=.int .u8 14) g0
 have g2:=aC (o:=1) (u:=str []) g1
 have g3:=aC (o:=2) (u:=.slice none 0 0) g2
 have g4:=aC (o:=3) (u:=.slice (some ⟨h,0,none⟩) 2 2) g3
 have B4 : Below wc.heap.size wc ((((w1.setCell ⟨wc.heap.size,0,none⟩ (.int .u8 14)).setCell ⟨wc.heap.size,1,none⟩ (str [])).setCell ⟨wc.heap.size,2,none⟩ (.slice none 0 0)).setCell ⟨wc.heap.size,3,none⟩ (.slice (some ⟨h,0,none⟩) 2 2)):=(((B1.setCell (by simp) _).setCell (by simp) _).setCell (by simp) _).setCell (by simp) _
 have off : ∀ k,k ≠ wc.heap.size → ((((w1.setCell ⟨wc.heap.size,0,none⟩ (.int .u8 14)).setCell ⟨wc.heap.size,1,none⟩ (str [])).setCell ⟨wc.heap.size,2,none⟩ (.slice none 0 0)).setCell ⟨wc.heap.size,3,none⟩ (.slice (some ⟨h,0,none⟩) 2 2)).heap[k]? = w1.heap[k]?:=fun k hne=>by
  rw [Below.heap_setCell _ _ _ _ hne,Below.heap_setCell _ _ _ _ hne,Below.heap_setCell _ _ _ _ hne,Below.heap_setCell _ _ _ _ hne]
 refine ⟨B4,g4,At.sl_nil (Nat.zero_le _), ?_⟩
 generalize ((((w1.setCell ⟨wc.heap.size,0,none⟩ (.int .u8 14)).setCell ⟨wc.heap.size,1,none⟩ (str [])).setCell ⟨wc.heap.size,2,none⟩ (.slice none 0 0)).setCell ⟨wc.heap.size,3,none⟩ (.slice (some ⟨h,0,none⟩) 2 2)) = W4 at B4 off
 obtain ⟨e1,e2⟩:=uQ E B4
 have K : bI (hide (p8 w wc) wr) (hide (p8 w wc) W4):=aH fun k h1 h2=>by
  refine ⟨h2,(off k ?_).trans (b1.block k h1)⟩
  simp only [p8,Bool.or_eq_false_iff,decide_eq_false_iff_not] at h2
  exact h2.2
 refine uT (f:=F) (f':=f) ?_ (U.ht.keep K) (U.hs.keep K) e1 e2
 rw [gX _ _ _ (by simp [p8,lo1];omega),off _ (by omega)]
 exact hh
theorem untils_snoc (f : Fm) (r : List Fm) (g : Fm) : eD f (r ++ [g]) = .mk 14 [] [] [eD f r,g]:=by simp [eD,List.foldl_append]
theorem untils_at (S : List Fm) (j : Nat) (h : j + 1 < S.length) : eD (S.getD 0 fls) ((S.drop 1).take (j + 1)) = .mk 14 [] [] [eD (S.getD 0 fls) ((S.drop 1).take j),S.getD (j + 1) fls]:=by
 have e : (S.drop 1).take (j + 1) = (S.drop 1).take j ++ [S.getD (j + 1) fls]:=by
  rw [List.take_add_one,List.getElem?_drop,List.getD_eq_getElem?_getD,show 1 + j = j + 1 by omega,List.getElem?_eq_getElem h];rfl
 rw [e,untils_snoc]
theorem builtOf_at (S : List Fm) (h : 0 < S.length) : nI S = eD (S.getD 0 fls) ((S.drop 1).take (S.length - 1)):=by
 cases S with
 | nil=>simp at h
 | cons f r=>simp [nI]
theorem bAt_end (l : Bs) (n k : Nat) (hn : n = l.length) (h1 : k ≤ n) (h2 : k ≤ 20) (h3 : ¬ (k < n ∧ k < 20)) : built l = nI (bAt l k):=by
 unfold built vH bAt
 rcases Nat.lt_or_ge k n with h | h
 ·obtain rfl : k = 20:=by omega
  rfl
 ·have e : l.take k = l.take 20:=by rw [List.take_of_length_le (by omega),List.take_of_length_le (by omega)]
  rw [e]
def iV (n : Nat) : Code → Option Code
 | .block i c=>if i = n then some (.block i c) else iV n c
 | .seq a b=>match iV n a with
  | some c=>some c
  | none=>iV n b
 | .cond _ a b=>match iV n a with
  | some c=>some c
  | none=>iV n b
 | .loop c=>iV n c
 | .scope c=>iV n c
 | _=>none
noncomputable def kM : Code:=((Tryz.f19.body).bind (iV 1)).getD .skip
theorem dQ {K : Act → World → Prop} {Q : Exit → Act → World → Prop} : ∀ (e : Exit) (a : Act) (w : World),Exit.then K (fun _ _ _=>False) e a w → Exit.then K Q e a w:=fun e a w h=>by
 cases e <;> first | exact h | exact (h : False).elim
set_option maxRecDepth 100000 in
def R20 (w : World) (l : Bs) (k b off n c : Nat) (act : Act) (w' : World) : Prop:=∃ u3 u5 u6 u7 u8 u9 u10 u11 u12 u13 u14 u15 u16 u17 u18 u19 u20 u21 u22 u23 u24 u25 u26 u27 u28 u29 u30 u31 u32 u33 u34 u35 u36 u37 u38 u39 u40 u41 u42 u43 u44 u45 u46 u47 u48 u49 u50 u51 u52 u53 u54 u55 u56 u57 u58 u59 u60 u61 u62 u63 u64 u65 u66 u67 u68 u69 u70 u71 u72 u73 u74 u75 u76 u77 u78 u79 u80 u81 u82 u83 u84 u85 u86 u87 u88 u89 u90 u91 u92 u93 u94 u95 u96 u97 u98 u99 u100 u101 u102 u103 u104 u105 u106 u107 u108 u109 u110 u111 u112 u113 u114 u115 u116 u117 u118 u119 u120 u121 u122 u123 u124 u125 u126 u127 u128 u129 u130 u131 u132 u133 u134 u135 u136 u137 u138 u139 u140 u141 u142 u143 u144 u145 u146 u147 u148 u149 u150 u151 u152 u153 u154 u155 u156 u157 u158 u159 u160 u161 u162 u163 u164 u165 u166 u167 u168 u169 u170 : Value,(u8 = undef ∧ u9 = undef ∧ Hid (BRel w l (k + 1) u3 w')) ∧ act = ⟨List.toArray ((.slice (some ⟨b,off,none⟩) n c) :: undef :: (one w.heap.size) :: u3 :: (.int .i64 k) :: u5 :: u6 :: u7 :: u8 :: u9 :: u10 :: u11 :: u12 :: u13 :: u14 :: u15 :: u16 :: u17 :: u18 :: u19 :: u20 :: u21 :: u22 :: u23 :: u24 :: u25 :: u26 :: u27 :: u28 :: u29 :: u30 :: u31 :: u32 :: u33 :: u34 :: u35 :: u36 :: u37 :: u38 :: u39 :: u40 :: u41 :: u42 :: u43 :: u44 :: u45 :: u46 :: u47 :: u48 :: u49 :: u50 :: u51 :: u52 :: u53 :: u54 :: u55 :: u56 :: u57 :: u58 :: u59 :: u60 :: u61 :: u62 :: u63 :: u64 :: u65 :: u66 :: u67 :: u68 :: u69 :: u70 :: u71 :: u72 :: u73 :: u74 :: u75 :: u76 :: u77 :: u78 :: u79 :: u80 :: u81 :: u82 :: u83 :: u84 :: u85 :: u86 :: u87 :: u88 :: u89 :: u90 :: u91 :: u92 :: u93 :: u94 :: u95 :: u96 :: u97 :: u98 :: u99 :: u100 :: u101 :: u102 :: u103 :: u104 :: u105 :: u106 :: u107 :: u108 :: u109 :: u110 :: u111 :: u112 :: u113 :: u114 :: u115 :: u116 :: u117 :: u118 :: u119 :: u120 :: u121 :: u122 :: u123 :: u124 :: u125 :: u126 :: u127 :: u128 :: u129 :: u130 :: u131 :: u132 :: u133 :: u134 :: u135 :: u136 :: u137 :: u138 :: u139 :: u140 :: u141 :: u142 :: u143 :: u144 :: u145 :: u146 :: u147 :: u148 :: u149 :: u150 :: u151 :: u152 :: u153 :: u154 :: u155 :: u156 :: u157 :: u158 :: u159 :: u160 :: u161 :: u162 :: u163 :: u164 :: u165 :: u166 :: u167 :: u168 :: u169 :: u170 :: undef :: undef :: undef :: undef :: undef :: undef :: undef :: undef :: undef :: undef :: undef :: undef :: undef :: undef :: undef :: undef :: undef :: undef :: undef :: undef :: undef :: []),[]⟩
end Go.Proofs.YtppfalbnhnpbnaaGreatDoor
namespace Go.Proofs.YtppfalbnhnpbnaaGreatDoor
open Go Go.RowKit Ly
set_option maxRecDepth 10000
theorem info148 : (Tryz.prog.info? 148).map (fun i=>(i.zero,i.size,i.bytes)) = some (some (.agg #[.string ⟨#[]⟩,.string ⟨#[]⟩]),2,32):=by kernel_rfl
theorem pN {a b : List Bs} (h : ∀ x,x ∈ a ↔ x ∈ b) (hl : a.length = b.length) : least a = least b:=by
 have key : ∀ k n,dB a k n = dB b k n:=by
  intro k
  induction k with
  | zero=>intro n;rfl
  | succ k ih =>
   intro n
   unfold dB
   by_cases hx : xN n ∈ a
   ·rw [if_pos hx,if_pos ((h _).1 hx),ih]
   ·rw [if_neg hx,if_neg (fun hb=>hx ((h _).2 hb))]
 unfold least dO
 rw [hl,key]
theorem tN {T : List Bs} (h : T.length ≤ 1000000) : okS (least T):=by
 have h1:=oK T
 have h2:=fO (n:=dO T) (by omega)
 show (xN (dO T)).length ≤ maxLen
 simp only [xN,List.length_cons,maxLen]
 omega
theorem iY (free : List Bs) (ar : List (Bs × Bs)) : ∀ (fs : List Fm) {j : Nat} {T : Fm},fs[j]? = some T → (bK free ar fs)[j]? = some (T.norm free ar)
 | [],_,_,h=>by simp at h
 | x :: fs,0,T,h=>by simp at h;subst h;simp [bK]
 | x :: fs,j + 1,T,h=>by simp at h;simp [bK,iY free ar fs h]
theorem eW (free : List Bs) (ar : List (Bs × Bs)) : ∀ fs : List Fm,(bK free ar fs).length = fs.length
 | []=>rfl
 | x :: fs=>by simp [bK,eW free ar fs]
theorem kX (l : List Fm) {j : Nat} {T : Fm} (h : l[j]? = some T) : bJ (l.take (j + 1)) = bJ (l.take j) ++ T.ds:=by
 have app : ∀ a b : List Fm,bJ (a ++ b) = bJ a ++ bJ b:=fun a b=>by
  induction a with
  | nil=>rfl
  | cons x a ih=>simp [bJ,ih]
 rw [List.take_add_one,h,app]
 simp [bJ]
theorem iX {T : Fm} : ∀ {fs : List Fm},T ∈ fs → T.nodes ≤ aD fs
 | [],h=>by cases h
 | x :: fs,h=>by
  rcases List.mem_cons.1 h with rfl | h
  ·simp [aD]
  ·have:=iX h;simp [aD];omega
theorem sY : ∀ fs : List Fm,fs.length ≤ aD fs
 | []=>Nat.zero_le _
 | .mk o n ts us :: fs=>by have:=sY fs;simp [aD,Fm.nodes];omega
theorem aL {w : World} {b : Nat} {x y z t : Value} (h : w.heap[b]? = some (.cells #[x,y,z,t] 40 (0,0))) :
  (w.cell? ⟨b,0,none⟩ = some x ∧ w.cell? ⟨b,1,none⟩ = some y ∧ w.cell? ⟨b,2,none⟩ = some z ∧ w.cell? ⟨b,3,none⟩ = some t) ∧ (w.frozen? ⟨b,0,none⟩ = false ∧ w.frozen? ⟨b,1,none⟩ = false ∧ w.frozen? ⟨b,2,none⟩ = false ∧ w.frozen? ⟨b,3,none⟩ = false) :=
 ⟨⟨(bE h 0).trans rfl,(bE h 1).trans rfl,(bE h 2).trans rfl,(bE h 3).trans rfl⟩,by simp [World.frozen?,h],by simp [World.frozen?,h],by simp [World.frozen?,h],by simp [World.frozen?,h]⟩
theorem vR {w W1 : World} {b : Nat} {x y z t x' y' z' t' : Value} {ty : TypeId} (hb : w.heap.size ≤ b) (B : Below w.heap.size w W1) (h : W1.heap[b]? = some (.cells #[x,y,z,t] ty (0,0))) :
  ((((W1.setCell ⟨b,0,none⟩ x').setCell ⟨b,1,none⟩ y').setCell ⟨b,2,none⟩ z').setCell ⟨b,3,none⟩ t').heap[b]? = some (.cells #[x',y',z',t'] ty (0,0)) ∧ Below w.heap.size w ((((W1.setCell ⟨b,0,none⟩ x').setCell ⟨b,1,none⟩ y').setCell ⟨b,2,none⟩ z').setCell ⟨b,3,none⟩ t') ∧
   ∀ j,j ≠ b → ((((W1.setCell ⟨b,0,none⟩ x').setCell ⟨b,1,none⟩ y').setCell ⟨b,2,none⟩ z').setCell ⟨b,3,none⟩ t').heap[j]? = W1.heap[j]? :=
 ⟨aC (o:=3) (u:=t') (aC (o:=2) (u:=z') (aC (o:=1) (u:=y') (aC (o:=0) (u:=x') h))),(((B.setCell hb _).setCell hb _).setCell hb _).setCell hb _,fun j hj=>by rw [Below.heap_setCell _ _ _ _ hj,Below.heap_setCell _ _ _ _ hj,Below.heap_setCell _ _ _ _ hj,Below.heap_setCell _ _ _ _ hj]⟩
def dP : List (Bs × Bs) → List Value
 | []=>[]
 | p :: ps=>str p.1 :: str p.2 :: dP ps
theorem prVals_length (l : List (Bs × Bs)) : (dP l).length = l.length * 2:=by
 induction l with
 | nil=>rfl
 | cons p l ih=>simp [dP,ih];omega
theorem prVals_append (a b : List (Bs × Bs)) : dP (a ++ b) = dP a ++ dP b:=by
 induction a with
 | nil=>rfl
 | cons p a ih=>simp [dP,ih]
theorem tR : ∀ (l : List (Bs × Bs)) (j : Nat) (d : D),(prsD l)[j]? = some d → ∃ v,(dP l)[j]? = some v ∧ d = .val v
 | [],j,d,h=>by simp [prsD] at h
 | p :: l,0,d,h=>by simp [prsD,prD,strD] at h;exact ⟨_,rfl,h.symm⟩
 | p :: l,1,d,h=>by simp [prsD,prD,strD] at h;exact ⟨_,rfl,h.symm⟩
 | p :: l,j + 2,d,h=>by
  simp [prsD,prD] at h
  obtain ⟨v,h1,h2⟩:=tR l j d h
  exact ⟨v,by simpa [dP] using h1,h2⟩
theorem dN.of_cells {w : World} {l : List (Bs × Bs)} {b off c : Nat} (hc : l.length ≤ c) (hm : c ≤ maxLen) (h : ∀ j v,(dP l)[j]? = some v → w.cell? ⟨b,off + j,none⟩ = some v) : dN w l (.slice (some ⟨b,off,none⟩) l.length c) :=
 At.sl_mk (prsD_length l) hc hm fun j d hd=>by
  obtain ⟨v,h1,rfl⟩:=tR l j d hd
  exact ⟨v,h j v h1,rfl⟩
theorem dN.cells {w : World} {l : List (Bs × Bs)} {b off n c : Nat} (h : dN w l (.slice (some ⟨b,off,none⟩) n c)) : ∀ j v,(dP l)[j]? = some v → w.cell? ⟨b,off + j,none⟩ = some v:=by
 intro j v hv
 have hne : l ≠ []:=by rintro rfl;simp [dP] at hv
 obtain ⟨b',off',e,hg⟩:=h.get hne
 cases e
 have key : ∀ (l : List (Bs × Bs)) (j : Nat),(dP l)[j]? = some v → ∃ (i : Nat) (p : Bs × Bs),l[i]? = some p ∧ ((j = i * 2 ∧ v = str p.1) ∨ (j = i * 2 + 1 ∧ v = str p.2)):=by
  intro l
  induction l with
  | nil=>intro j h;simp [dP] at h
  | cons p l ih =>
   intro j h
   match j,h with
   | 0,h=>simp [dP] at h;exact ⟨0,p,rfl,.inl ⟨rfl,h.symm⟩⟩
   | 1,h=>simp [dP] at h;exact ⟨0,p,rfl,.inr ⟨rfl,h.symm⟩⟩
   | j + 2,h =>
    simp [dP] at h
    obtain ⟨i,q,h1,h2⟩:=ih j h
    exact ⟨i + 1,q,by simpa using h1,h2.imp (fun h=>⟨by omega,h.2⟩) (fun h=>⟨by omega,h.2⟩)⟩
 obtain ⟨i,p,h1,h2⟩:=key l j hv
 obtain ⟨g1,g2⟩:=hg i p h1
 rcases h2 with ⟨rfl,rfl⟩ | ⟨rfl,rfl⟩
 ·exact g1
 ·rw [show off + (i * 2 + 1) = off + i * 2 + 1 by omega];exact g2
theorem xV (w : World) (x y : Value) (t : TypeId) : ∀ j u,[x,y][j]? = some u → (w.alloc (.cells #[x,y] t)).cell? ((⟨w.heap.size,0,none⟩ : Addr).add j) = some u:=by
 intro j u h
 have g:=heap_alloc_new w (.cells #[x,y] t)
 have e : (⟨w.heap.size,0,none⟩ : Addr).add j = ⟨w.heap.size,j,none⟩:=by
  by_cases h0 : j = 0
  ·subst h0;rfl
  ·simp [Addr.add,h0]
 rw [e,bE g]
 simpa using h
theorem tO {s t : Bs} : ∀ u ∈ [str s,str t],u.oneCell' = true:=by
 intro u hu
 simp only [List.mem_cons,List.mem_nil_iff,or_false] at hu
 rcases hu with rfl | rfl <;> rfl
theorem addr_add (b o j : Nat) : (⟨b,o,none⟩ : Addr).add j = ⟨b,o + j,none⟩:=by
 by_cases h0 : j = 0
 ·subst h0;rfl
 ·simp [Addr.add,h0]
structure NrI (W Wl : World) (R : Nat) (op : Int) (nm nm' : Bs) (ta fa ua : Value) (ts' : List Tm) (ar' : List (Bs × Bs)) (a' : Option Addr) (n' c' : Nat) (wx : World) : Prop where
 r : wx.heap[R]? = some (.cells #[.int .u8 op,str nm',ua,.slice none 0 0] 40 (0,0))
 b0 : wx.heap[W.heap.size]? = some (.cells #[.int .u8 op,str nm,ta,fa] 40 (0,0))
 b1 : wx.heap[W.heap.size + 1]? = some (.cells #[.slice a' n' c'] 145 (0,0))
 b2 : wx.heap[W.heap.size + 1 + 1]? = some (.cells #[.int .u8 0,str [],.slice none 0 0,.slice none 0 0] 40 (0,0))
 prs : dN (hide (fun k=>decide (k = R)) wx) ar'.reverse (.slice a' n' c')
 nil : (a' = none ∧ n' = 0 ∧ c' = 0) ∨ ∃ b off,a' = some ⟨b,off,none⟩
 tms : bG (hide (lo Wl) wx) ts' ua
 bw : Below W.heap.size W wx
 sz : Wl.heap.size ≤ wx.heap.size
theorem NrI.below {W Wl : World} {R : Nat} {op : Int} {nm nm' : Bs} {ta fa ua : Value} {ts' : List Tm} {ar' : List (Bs × Bs)} {a' : Option Addr} {n' c' : Nat} {wx w2 : World} (h : NrI W Wl R op nm nm' ta fa ua ts' ar' a' n' c' wx) (b : Below wx.heap.size wx w2) : NrI W Wl R op nm nm' ta fa ua ts' ar' a' n' c' w2 :=
 ⟨(b.block _ (Array.getElem?_eq_some_iff.1 h.r).1).trans h.r,(b.block _ (Array.getElem?_eq_some_iff.1 h.b0).1).trans h.b0,(b.block _ (Array.getElem?_eq_some_iff.1 h.b1).1).trans h.b1,(b.block _ (Array.getElem?_eq_some_iff.1 h.b2).1).trans h.b2,
  h.prs.keep (aH fun k h1 h2=>⟨h2,b.block k h1⟩),h.nil,h.tms.keep (aH fun k h1 h2=>⟨h2,b.block k h1⟩),h.bw.trans (b.mono h.bw.size),Nat.le_trans h.sz b.size⟩
section
variable {W Wl : World} {R : Nat} {op : Int} {nm nm1 : Bs} {ta fa ua : Value} {ts' : List Tm} {ar : List (Bs × Bs)} {a : Option Addr} {n c : Nat} {wx : World}
theorem NrI.name (h : NrI W Wl R op nm nm1 ta fa ua ts' ar a n c wx) (hR : W.heap.size + 1 + 1 < R) (hl : R < Wl.heap.size) (nm2 : Bs) : NrI W Wl R op nm nm2 ta fa ua ts' ar a n c (wx.setCell ⟨R,1,none⟩ (str nm2)):=by
 have g : ∀ k,k ≠ R → (wx.setCell ⟨R,1,none⟩ (str nm2)).heap[k]? = wx.heap[k]?:=fun k hk=>Below.heap_setCell _ _ _ _ hk
 refine ⟨aC (o:=1) (u:=str nm2) h.r,(g _ (by omega)).trans h.b0,(g _ (by omega)).trans h.b1,(g _ (by omega)).trans h.b2,h.prs.keep (aH fun k h1 h2=>⟨h2,g k (by simpa using h2)⟩),h.nil,
  h.tms.keep (aH fun k h1 h2=>⟨h2,g k (by have h9 : Wl.heap.size ≤ k:=(by simpa [lo] using h2);omega)⟩),h.bw.setCell (p:=⟨R,1,none⟩) (by show W.heap.size ≤ R;omega) _,by have:=h.sz;simp;omega⟩
theorem NrI.push {w6 w7 : World} {nm2 : Bs} {v : Value} (h : NrI W Wl R op nm nm1 ta fa ua ts' ar a n c wx) (hR : W.heap.size + 1 + 1 < R) (hl : R < Wl.heap.size) (b : Below wx.heap.size wx w6) (hg : w6.grownBy w7 none) (hn : n = ar.length) (ho : w7.ownsRow w6.heap.size 148 2 v (n + 1) (dP ar.reverse ++ [str nm,str nm2])) :
  ∃ g c',v = .slice (some ⟨g,0,none⟩) (n + 1) c' ∧ w7.heap[W.heap.size + 1]? = some (.cells #[.slice a n c] 145 (0,0)) ∧ ∀ w8,w8 = w7.setCell ⟨W.heap.size + 1,0,none⟩ v → NrI W Wl R op nm nm1 ta fa ua ts' ((nm,nm2) :: ar) (some ⟨g,0,none⟩) (n + 1) c' w8:=by
 have b7 : Below wx.heap.size wx w7:=b.trans ⟨hg.os,hg.tape,hg.output,hg.size,fun i hi=>hg.block i (by have:=b.size;omega) (by simp)⟩
 have h7:=h.below b7
 rcases ho.2 with ⟨e,h0⟩ | ⟨g,cap,cur,e,hgl,hcell,h1,h2,h3,h4⟩
 ·omega
 refine ⟨g,cap,e,h7.b1, ?_⟩
 rintro w8 rfl
 have gk : ∀ k,k ≠ W.heap.size + 1 → (w7.setCell ⟨W.heap.size + 1,0,none⟩ v).heap[k]? = w7.heap[k]?:=fun k hk=>Below.heap_setCell _ _ _ _ hk
 have s6:=b.size
 have sx : W.heap.size + 1 < wx.heap.size:=(Array.getElem?_eq_some_iff.1 h.b1).1
 have sR : R < wx.heap.size:=(Array.getElem?_eq_some_iff.1 h.r).1
 refine ⟨(gk _ (by omega)).trans h7.r,(gk _ (by omega)).trans h7.b0, ?_,(gk _ (by omega)).trans h7.b2, ?_,.inr ⟨g,0,rfl⟩,
  h7.tms.keep (aH fun k k1 k2=>⟨k2,gk k (by have h9 : Wl.heap.size ≤ k:=(by simpa [lo] using k2);omega)⟩),h7.bw.setCell (p:=⟨W.heap.size + 1,0,none⟩) (by show W.heap.size ≤ W.heap.size + 1;omega) _,by have:=h7.sz;simp;omega⟩
 ·rw [aC (o:=0) (u:=v) h7.b1,e];rfl
 ·have hle : ((nm,nm2) :: ar).reverse.length = n + 1:=by simp [hn]
  have pv : dP ((nm,nm2) :: ar).reverse = dP ar.reverse ++ [str nm,str nm2]:=by rw [List.reverse_cons,prVals_append];rfl
  rw [← hle] at h1 ⊢
  refine dN.of_cells h1 h2 fun j u hu=>?_
  rw [pv] at hu
  rw [Nat.zero_add,cD (by simp;omega),World.cell?_of_block (a:=⟨g,j,none⟩) (gk g (by omega))]
  subst e
  have hc:=ho.cells (g:=g) rfl j u hu
  rwa [addr_add,Nat.zero_add] at hc
end
end Go.Proofs.YtppfalbnhnpbnaaGreatDoor
namespace Go.Proofs.YtppfalbnhnpbnaaGreatDoor
open Go Go.RowKit Ly
set_option maxRecDepth 10000
theorem vY : laidOutB Tryz.prog = true:=by kernel_rfl
theorem zN : (104 : TypeId) < Tryz.prog.types.size:=of_decide_eq_true (by kernel_rfl)
theorem wide104 : (match Tryz.prog.underlying 104 with | some (.array _ _) | some (.struct _)=>true | _=>false) = true:=by kernel_rfl
theorem law104 : WideMaps.KeyLaw Tryz.prog 104:=deep_law_laid vY (m:=3) (by omega) zN (by kernel_rfl) wide104
theorem row51 : (51 : TypeId) < Tryz.prog.types.size:=of_decide_eq_true (by kernel_rfl)
theorem wide51 : (match Tryz.prog.underlying 51 with | some (.array _ _) | some (.struct _)=>true | _=>false) = true:=by kernel_rfl
theorem law51 : WideMaps.KeyLaw Tryz.prog 51:=deep_law_laid vY (m:=3) (by omega) row51 (by kernel_rfl) wide51
theorem vK : Tryz.prog.cellsOf 104 = 3:=by kernel_rfl
theorem uK : Tryz.prog.cellsOf 51 = 2:=by kernel_rfl
theorem yS : Tryz.prog.cellsOf 9 = 1:=by kernel_rfl
theorem cells3 : Tryz.prog.cellsOf 3 = 1:=by kernel_rfl
theorem zF (D : Nat) (s : Bs) (k : Int) (hs : s.length ≤ maxLen) (hk : (Lit.int .i64 k).wf = true) : Tryz.prog.keyLits (D + 2) 51 [str s,.int .i64 k] = some [.string s,.int .i64 k]:=by
 have e : (⟨s.toArray⟩ : ByteArray).size = s.length:=by simp [ByteArray.size]
 unfold Program.keyLits
 simp [Tryz.underlying51,uK,yS,cells3]
 simp [Program.keyLits,Tryz.underlying9,Tryz.underlying3,hk,e,hs]
theorem lits104 (D : Nat) (c s : Bs) (k : Int) (hc : c.length ≤ maxLen) (hs : s.length ≤ maxLen) (hk : (Lit.int .i64 k).wf = true) : Tryz.prog.keyLits (D + 3) 104 [str c,str s,.int .i64 k] = some [.string c,.string s,.int .i64 k]:=by
 have h2:=zF D s k hs hk
 unfold Program.keyLits
 simp [Tryz.underlying104,vK,uK,yS,h2]
 have e : (⟨c.toArray⟩ : ByteArray).size = c.length:=by simp [ByteArray.size]
 simp [Program.keyLits,Tryz.underlying9,e,hc]
theorem zR : ∃ D,Tryz.prog.types.size + 1 = D + 3:=⟨Tryz.prog.types.size - 2,by have h : 104 < Tryz.prog.types.size:=zN;omega⟩
def encY (s : Sy) : Value:=.agg #[str [s.sort],str s.name,.int .i64 s.ar]
def okY (s : Sy) : Prop:=s.name.length ≤ maxLen ∧ s.ar ≤ 1000000
def litY (s : Sy) : Lit:=.string (keyBytes [.string [s.sort],.string s.name,.int .i64 s.ar])
theorem zC {k : Nat} (h : k ≤ 1000000) : (Lit.int .i64 (k : Int)).wf = true:=by
 have h1 : IntKind.i64.min ≤ (k : Int):=by
  have : IntKind.i64.min = -9223372036854775808:=by decide
  omega
 simp [Lit.wf,h1]
 omega
theorem keyOfY (s : Sy) (h : okY s) : keyOf Tryz.prog 104 (encY s) = some (litY s):=by
 obtain ⟨D,hD⟩:=zR
 have hl:=lits104 D [s.sort] s.name s.ar (by simp [maxLen]) h.1 (zC h.2)
 have hf : (encY s).formed Tryz.prog 104 = true:=by simp [encY,Value.formed,Tryz.underlying104,vK]
 have hk : Tryz.prog.keyType 104 = true:=by kernel_rfl
 unfold keyOf
 rw [Tryz.underlying104]
 simp only [hk,hf,Bool.and_self,if_true,hD]
 show Option.map _ (Tryz.prog.keyLits (D + 3) 104 [str [s.sort],str s.name,.int .i64 s.ar]) = _
 rw [hl]
 rfl
theorem encY_inj (s t : Sy) (h : encY s = encY t) : s = t:=by
 obtain ⟨a,b,c⟩:=s
 obtain ⟨a',b',c'⟩:=t
 simp only [encY,Value.agg.injEq,Array.mk.injEq,List.cons.injEq,and_true] at h
 obtain ⟨h1,h2,h3⟩:=h
 have e1:=qE h1
 have e2:=qE h2
 simp only [List.cons.injEq,and_true] at e1
 simp only [Value.int.injEq,true_and] at h3
 have e3 : c = c':=by omega
 subst e1 e2 e3
 rfl
theorem keyY : KeyG Tryz.prog 104 encY okY litY:=⟨Maps.Keyed.of_law law104,keyOfY,encY_inj⟩
end Go.Proofs.YtppfalbnhnpbnaaGreatDoor
