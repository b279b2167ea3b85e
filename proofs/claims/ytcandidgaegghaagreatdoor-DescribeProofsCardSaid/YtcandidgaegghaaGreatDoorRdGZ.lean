/- The reader of words: quantified formulas, and formula at every fuel. Conditions: words of at most the greatest length. -/
import Derived.Test.YtcandidgaegghaaGreatDoorCpZ
import Derived.Test.YtcandidgaegghaaGreatDoorRdEZ
import Derived.Lib.SplitLaws
set_option maxRecDepth 10000
set_option linter.unusedSimpArgs false
set_option linter.unusedVariables false
namespace Go.Proofs.YtcandidgaegghaaGreatDoor
open Go Go.RowKit Ly
set_option maxHeartbeats 4000000
def mX (n : Nat) : List Bs → PR Fm
 | []=>.bad []
 | q :: l=>if q = wAll ∨ q = eA then
   (match l with
   | []=>.bad []
   | v :: r=>if aZ v = true then (match bJ n r with | .bad s=>.bad s | .good f s=>.good (.mk (if q = eA then 9 else 8) v [] [f]) s) else .bad (v :: r))
  else .bad (q :: l)
theorem tF {ws : List Bs} {n k k3 k4 k5 : Nat} {s v : Bs} {f3 f4 f5 : Bool} {fx : Fm} {op : Int} (h1 : lS ws k false (fun s=>decide (s ∈ [wAll,eA])) s k3 f3) (h2 : lS ws k3 f3 aZ v k4 f4)
  (h3 : PrOk (pF f4 n (ws.drop k4)) fx f5 (ws.drop k5)) (hop : f3 = false → op = if s = eA then 9 else 8) : PrOk (mX n (ws.drop k)) (.mk op v [] [fx]) f5 (ws.drop k5):=by
 rcases h1 with ⟨_,hs,hp,rfl,rfl⟩ | ⟨hor,_,rfl,rfl⟩
 ·have e : s = wAll ∨ s = eA:=by simpa using hp
  rw [hop rfl,drop_at hs]
  simp only [mX,if_pos e]
  rcases h2 with ⟨_,hv,hp2,rfl,rfl⟩ | ⟨hor,_,rfl,rfl⟩
  ·rw [drop_at hv]
   simp only [if_pos hp2]
   simp only [pF,Bool.false_eq_true,if_false] at h3
   revert h3
   cases bJ n (ws.drop (k + 1 + 1)) with
   | bad r=>exact fun h=>h
   | good y r=>rintro ⟨rfl,h2,h3⟩;exact ⟨rfl,h2,h3⟩
  ·simp only [pF,if_true] at h3
   rcases hor with h | h | ⟨y,hy,hp⟩
   ·cases h
   ·rw [gB h] at h3 ⊢;exact h3
   ·rw [drop_at hy] at h3 ⊢
    simp only [hp,Bool.false_eq_true,if_false];exact h3
 ·rcases h2 with ⟨h,_⟩ | ⟨_,_,rfl,rfl⟩
  ·cases h
  ·simp only [pF,if_true] at h3
   rcases hor with h | h | ⟨y,hy,hp⟩
   ·cases h
   ·rw [gB h] at h3 ⊢;exact h3
   ·rw [drop_at hy] at h3 ⊢
    have : ¬ (y = wAll ∨ y = eA):=by simpa using hp
    simp only [mX,if_neg this];exact h3
structure QuS (I : RdIx) (ws : List Bs) (w : World) (op : Int) (nm : Bs) (k : Nat) (f : Bool) (wx : World) : Prop where
 rd : Rd wx I ws k f
 mv : aN I w wx
 g : wx.heap[w.heap.size]? = some (.cells #[.int .u8 0,str [],.slice none 0 0,.slice none 0 0] 25 (0,0))
 h : wx.heap[w.heap.size + 1]? = some (.cells #[.int .u8 op,str nm,.slice none 0 0,.slice none 0 0] 25 (0,0))
section
variable {I : RdIx} {ws : List Bs} {w : World} {op : Int} {nm : Bs} {k : Nat} {f : Bool} {wx : World}
theorem QuS.moved (q : QuS I ws w op nm k f wx) {wy : World} {k3 : Nat} {f3 : Bool} (m : aN I wx wy) (r : Rd wy I ws k3 f3) : QuS I ws w op nm k3 f3 wy :=
 ⟨r,q.mv.trans m,m.keepc q.rd (by decide) (by decide) q.g,m.keepc q.rd (by decide) (by decide) q.h⟩
theorem Rd.set {k0 : Nat} {f0 : Bool} (H : Rd w I ws k0 f0) (R : Rd wx I ws k f) (m : aN I w wx) (b o : Nat) (v : Value) (hb : w.heap.size ≤ b) : Rd (wx.setCell ⟨b,o,none⟩ v) I ws k f :=
 H.back R (m.set hb v) fun j hj=>Below.heap_setCell _ _ _ _ (by simp;omega)
theorem QuS.setH (q : QuS I ws w op nm k f wx) {k0 : Nat} {f0 : Bool} (H : Rd w I ws k0 f0) {op' : Int} {nm' : Bs} (o : Nat) (v : Value) (e : (#[.int .u8 op,str nm,.slice none 0 0,.slice none 0 0] : Array Value).setIfInBounds o v = #[.int .u8 op',str nm',.slice none 0 0,.slice none 0 0]) : QuS I ws w op' nm' k f (wx.setCell ⟨w.heap.size + 1,o,none⟩ v) :=
 ⟨H.set q.rd q.mv _ _ _ (by omega),q.mv.set (by omega) v,(Below.heap_setCell _ _ _ _ (by simp)).trans q.g,by rw [aC q.h,e]⟩
end
theorem row25' {w : World} {b : Nat} {x y z t : Value} (h : w.heap[b]? = some (.cells #[x,y,z,t] 25 (0,0))) :
  w.cell? ⟨b,0,none⟩ = some x ∧ w.cell? ⟨b,1,none⟩ = some y ∧ w.cell? ⟨b,2,none⟩ = some z ∧ w.cell? ⟨b,3,none⟩ = some t ∧
  w.frozen? ⟨b,0,none⟩ = false ∧ w.frozen? ⟨b,1,none⟩ = false ∧ w.frozen? ⟨b,2,none⟩ = false ∧ w.frozen? ⟨b,3,none⟩ = false :=
 ⟨(box_cell h 0).trans rfl,(box_cell h 1).trans rfl,(box_cell h 2).trans rfl,(box_cell h 3).trans rfl,by simp [World.frozen?,h],by simp [World.frozen?,h],by simp [World.frozen?,h],by simp [World.frozen?,h]⟩
theorem BK {I : RdIx} {ws : List Bs} {w wq w7 : World} {op : Int} {v : Bs} {k0 k7 : Nat} {f0 f7 : Bool} {fx : Fm} {a : Option Addr} {na ca : Nat} {b : Option Addr} {nb cb : Nat} {pr : PR Fm} {tmps : Array Value} (H : Rd w I ws k0 f0) (S7 : QuS I ws w op v k7 f7 w7) (hq : w.heap.size + 2 ≤ wq.heap.size)
  (ht : bI (hide (lo wq) w7) fx.args (.slice a na ca)) (hs : cD (hide (lo wq) w7) fx.sub (.slice b nb cb)) (hp : PrOk pr (.mk op v [] [fx]) f7 (ws.drop k7)) (h2 : tmps.getD 2 undef = one w.heap.size) :
  bodyPost Tryz.prog Tryz.f194 (Out I ws w pr bV) .ret ⟨tmps,[]⟩ ((((((w7.setCell ⟨w.heap.size + 1,3,none⟩ (.slice (some ⟨w7.heap.size,0,none⟩) 1 1)).setCell ⟨w.heap.size,0,none⟩ (.int .u8 op)).setCell ⟨w.heap.size,1,none⟩ (str v)).setCell ⟨w.heap.size,2,none⟩ (.slice none 0 0)).setCell ⟨w.heap.size,3,none⟩ (.slice (some ⟨w7.heap.size,0,none⟩) 1 1)).alloc (.cells #[.int .u8 fx.op,str fx.name,.slice a na ca,.slice b nb cb] 25)):=by
 have z7:=(Array.getElem?_eq_some_iff.1 S7.h).1
 have z8:=(Array.getElem?_eq_some_iff.1 S7.g).1
 have hz : ((w.alloc (.map #[] 0)).alloc (.map #[] 0)).heap.size = w.heap.size + 2:=by simp
 have K : aR (hide (lo wq) w7) (hide (lo ((w.alloc (.map #[] 0)).alloc (.map #[] 0))) w7):=pC (by omega) fun _ _ _=>rfl
 have fo:=AB (w1:=(w.alloc (.map #[] 0)).alloc (.map #[] 0)) (w2:=w7) (t:=25) (by omega) (ht.keep K) (hs.keep K)
 have K2 : aR (hide (lo ((w.alloc (.map #[] 0)).alloc (.map #[] 0))) (w7.alloc (.cells #[.int .u8 fx.op,str fx.name,.slice a na ca,.slice b nb cb] 25))) (hide (lo ((w.alloc (.map #[] 0)).alloc (.map #[] 0))) ((w7.alloc (.cells #[.int .u8 fx.op,str fx.name,.slice a na ca,.slice b nb cb] 25)).setCell ⟨w.heap.size + 1,3,none⟩ (.slice (some ⟨w7.heap.size,0,none⟩) 1 1))):=aV fun k h1 h2=>by
  refine ⟨h2,Below.heap_setCell _ _ _ _ ?_⟩
  simp only [lo,decide_eq_false_iff_not,Nat.not_lt,hz] at h2
  simp;omega
 have ba : Below w7.heap.size w7 (w7.alloc (.cells #[.int .u8 fx.op,str fx.name,.slice a na ca,.slice b nb cb] 25)):=bnew
 obtain ⟨g4,v4,m4,r4⟩:=lE (fm:=.mk op v [] [fx]) (g:=w.heap.size) (a:=none) (n:=0) (c:=0) (w1:=(w.alloc (.map #[] 0)).alloc (.map #[] 0)) (w3:=(w7.alloc (.cells #[.int .u8 fx.op,str fx.name,.slice a na ca,.slice b nb cb] 25)).setCell ⟨w.heap.size + 1,3,none⟩ (.slice (some ⟨w7.heap.size,0,none⟩) 1 1)) H (H.set (S7.rd.below ba) (S7.mv.alloc _) _ _ _ (by omega)) ((S7.mv.alloc _).set (by omega) _) (Nat.le_refl _) (by omega) (by omega)
  ((Below.heap_setCell _ _ _ _ (by simp)).trans ((heap_alloc_old _ _ z8).trans S7.g)) (At.sl_nil (Nat.zero_le _)) (fo.keep K2) _ rfl
 rw [World.setCell_alloc_past _ _ _ _ z7,kZ (by simpa [World.setCell] using z8)] at g4 v4 m4 r4
 refine bodyPost_ret (jF rfl _ _ w.heap.size _ _ _ _ (0,0) h2 g4) rfl ?_
 exact ⟨_,_,k7,f7,rfl,v4,m4,r4,hp⟩
theorem tE {ws : List Bs} {n k k3 k4 : Nat} {s v : Bs} {f3 f4 : Bool} (hn : 3 * (ws.length - k) + 1 ≤ n) (h1 : lS ws k false (fun s=>decide (s ∈ [wAll,eA])) s k3 f3) (h2 : lS ws k3 f3 aZ v k4 f4) : f4 = false → 3 * (ws.length - k4) + 1 ≤ n:=by
 intro e
 rcases h2 with ⟨e3,hv,_,rfl,_⟩ | ⟨_,_,_,e4⟩
 ·rcases h1 with ⟨_,hs,_,rfl,_⟩ | ⟨_,_,_,e5⟩
  ·omega
  ·rw [e5] at e3;cases e3
 ·rw [e4] at e;cases e
theorem quant_c (I : RdIx) (ws : List Bs) (hw : ∀ x ∈ ws,x.length ≤ maxLen) (n : Nat) (hF : rD I ws n) (k : Nat) (w : World) (h : Rd w I ws k false) (tb : Tb w I) (hn : 3 * (ws.length - k) + 1 ≤ n) :
  Calls Tryz.prog 194 #[one I.S] w (Out I ws w (mX n (ws.drop k)) bV):=by
 have hB : Below w.heap.size w ((w.alloc (.cells #[.int .u8 0,str [],.slice none 0 0,.slice none 0 0] 25)).alloc (.cells #[.int .u8 8,str [],.slice none 0 0,.slice none 0 0] 25)):=bnew.alloc (by simp) _
 have S0 : QuS I ws w 8 [] k false ((w.alloc (.cells #[.int .u8 0,str [],.slice none 0 0,.slice none 0 0] 25)).alloc (.cells #[.int .u8 8,str [],.slice none 0 0,.slice none 0 0] 25)):=⟨h.below hB,aN.of_below hB,heap_alloc2_old _ _ _,heap_alloc2_new _ _ _⟩
 generalize hW : (w.alloc (.cells #[.int .u8 0,str [],.slice none 0 0,.slice none 0 0] 25)).alloc (.cells #[.int .u8 8,str [],.slice none 0 0,.slice none 0 0] 25) = W at S0
 have HS0:=Hd S0
 have H:=Hd h
 have TB:=Hd tb
 have HF:=Hd hF
 have HN:=Hd hn
 have HW:=Hd hw
 have HWW:=Hd hW
 clear h tb hF hn hw S0 hB hW
 go_enter Tryz.func194,Tryz.ntmps194
 go_upto_region 2 with fail
 rw [show (w.alloc (Obj.cells #[Value.int IntKind.u8 0,Value.string { data:=#[] },Value.slice none 0 0,Value.slice none 0 0] 25)).alloc (Obj.cells #[Value.int IntKind.u8 8,Value.string { data:=#[] },Value.slice none 0 0,Value.slice none 0 0] 25) = W from HWW.out]
 clear HWW
 go_upto_region 4 with (first
  | (go_at_call 265;refine (is_c (l:=[wAll,eA]) (wH W wAll eA 9) (by simp)).mono ?_;rintro e w3 ⟨⟨bf,rfl,acc⟩,b3⟩;have AC:=Hd acc;have B3 : Hid (Below W.heap.size W w3):=(bnew.trans (b3.mono (by simp)));clear acc b3)
  | (go_at_call 196;refine (iB I ws k false 299 #[] _ _ _ (HS0.out.rd.below B3.out) HW.out uU AC.out).mono ?_;rintro e w4 mp;obtain ⟨s,k3,f3,rfl,mv,r4,mw⟩:=iE mp;have S4:=HS0.out.moved ((aN.of_below B3.out).trans mv) r4;obtain ⟨y0,y1,y2,y3,g0,g1,g2,g3⟩:=row25' S4.h;have Q4:=Hd (And.intro S4 mw);clear S4 mp mv r4 mw))
 ·have hs : s = eA:=by show s = [115,111,109,101];first | assumption | (apply eq_of_beq;assumption)
  have HOP : Hid (f3 = false → (9 : Int) = if s = eA then 9 else 8):=fun _=>(if_pos hs).symm
  have Q5:=Hd (Q4.out.1.setH H.out (op':=9) (nm':=[]) 0 (.int .u8 9) rfl)
  clear hs y0 y1 y2 y3 g0 g1 g2 g3
  go_wp2_with (first
   | (go_at_call 196;refine (iB I ws k3 f3 266 #[] #[] _ _ Q5.out.rd HW.out JG (wK _)).mono ?_;rintro e w6 mp;obtain ⟨v,k4,f4,rfl,mv6,r6,mw6⟩:=iE mp;have S6:=Q5.out.moved mv6 r6;obtain ⟨y0,y1,y2,y3,g0,g1,g2,g3⟩:=row25' S6.h;have Q6:=Hd (And.intro S6 mw6);clear S6 mp mv6 r6 mw6)
   | (go_at_call 117;refine (HF.out k4 f4 _ (Q6.out.1.setH H.out (op':=9) (nm':=v) 1 (str v) rfl).rd (TB.out.moved H.out (Q6.out.1.setH H.out (op':=9) (nm':=v) 1 (str v) rfl).mv) (tE HN.out Q4.out.2 Q6.out.2)).mono ?_;rintro e w7 ⟨fx,v7,k7,f7,rfl,⟨a,na,ca,b,nb,cb,rfl,ht,hs⟩,mv7,r7,hp7⟩;have S7:=(Q6.out.1.setH H.out (op':=9) (nm':=v) 1 (str v) rfl).moved mv7 r7;clear y0 y1 y2 y3 g0 g1 g2 g3;obtain ⟨y0,y1,y2,y3,g0,g1,g2,g3⟩:=row25' S7.h;obtain ⟨x0,x1,x2,x3,l0,l1,l2,l3⟩:=row25' S7.g;have z7:=(Array.getElem?_eq_some_iff.1 S7.h).1;have z8:=(Array.getElem?_eq_some_iff.1 S7.g).1;have Q7:=Hd (And.intro S7 (And.intro ht (And.intro hs (And.intro mv7 hp7))));clear S7 ht hs mv7 r7 hp7))
  obtain ⟨S7,ht,hs,mv7,hp7⟩:=Q7.out
  exact BK H.out S7 (by have:=(Array.getElem?_eq_some_iff.1 Q6.out.1.h).1;simp [World.setCell];omega) ht hs (tF Q4.out.2 Q6.out.2 hp7 HOP.out) rfl
 ·have hs : ¬ s = eA:=by show ¬ s = [115,111,109,101];first | assumption | (apply ne_of_beq_false;assumption)
  have HOP : Hid (f3 = false → (8 : Int) = if s = eA then 9 else 8):=fun _=>(if_neg hs).symm
  have Q5:=Hd Q4.out.1
  clear hs y0 y1 y2 y3 g0 g1 g2 g3
  go_wp2_with (first
   | (go_at_call 196;refine (iB I ws k3 f3 266 #[] #[] _ _ Q5.out.rd HW.out JG (wK _)).mono ?_;rintro e w6 mp;obtain ⟨v,k4,f4,rfl,mv6,r6,mw6⟩:=iE mp;have S6:=Q5.out.moved mv6 r6;obtain ⟨y0,y1,y2,y3,g0,g1,g2,g3⟩:=row25' S6.h;have Q6:=Hd (And.intro S6 mw6);clear S6 mp mv6 r6 mw6)
   | (go_at_call 117;refine (HF.out k4 f4 _ (Q6.out.1.setH H.out (op':=8) (nm':=v) 1 (str v) rfl).rd (TB.out.moved H.out (Q6.out.1.setH H.out (op':=8) (nm':=v) 1 (str v) rfl).mv) (tE HN.out Q4.out.2 Q6.out.2)).mono ?_;rintro e w7 ⟨fx,v7,k7,f7,rfl,⟨a,na,ca,b,nb,cb,rfl,ht,hs⟩,mv7,r7,hp7⟩;have S7:=(Q6.out.1.setH H.out (op':=8) (nm':=v) 1 (str v) rfl).moved mv7 r7;clear y0 y1 y2 y3 g0 g1 g2 g3;obtain ⟨y0,y1,y2,y3,g0,g1,g2,g3⟩:=row25' S7.h;obtain ⟨x0,x1,x2,x3,l0,l1,l2,l3⟩:=row25' S7.g;have z7:=(Array.getElem?_eq_some_iff.1 S7.h).1;have z8:=(Array.getElem?_eq_some_iff.1 S7.g).1;have Q7:=Hd (And.intro S7 (And.intro ht (And.intro hs (And.intro mv7 hp7))));clear S7 ht hs mv7 r7 hp7))
  obtain ⟨S7,ht,hs,mv7,hp7⟩:=Q7.out
  exact BK H.out S7 (by have:=(Array.getElem?_eq_some_iff.1 Q6.out.1.h).1;simp [World.setCell];omega) ht hs (tF Q4.out.2 Q6.out.2 hp7 HOP.out) rfl
open Go Go.RowKit Ly
set_option maxHeartbeats 4000000
theorem FU (n : Nat) (l : List Bs) : bJ (n + 1) (cF :: l) = .good (.mk 2 [] [] []) l:=by
 simp only [bJ,if_true]
theorem LO (n : Nat) (w : Bs) (l : List Bs) (h1 : w ≠ cF) (h : iF w ≠ 0) : bJ (n + 1) (w :: l) = DY (iF w) [] (bJ n l):=by
 simp only [bJ,if_neg h1,if_pos h]
 cases bJ n l <;> rfl
theorem LP (n : Nat) (w : Bs) (l : List Bs) (h1 : w ≠ cF) (h : iF w = 0) (h2 : iO w ≠ 0) : bJ (n + 1) (w :: l) = rS n (iO w) (aG (iO w)) (bJ n l):=by
 simp only [bJ,if_neg h1,h,h2,ne_eq,not_true_eq_false,not_false_eq_true,if_false,if_true]
 cases bJ n l with
 | bad r=>rfl
 | good f r=>cases r <;> rfl
theorem LI (n : Nat) (l : List Bs) : bJ (n + 1) (wFor :: l) = mX n l:=by
 have h1 : wFor ≠ cF:=by decide
 have h2 : iF wFor = 0:=by decide
 have h3 : iO wFor = 0:=by decide
 simp only [bJ,if_neg h1,h2,h3,ne_eq,not_true_eq_false,if_false,if_true]
 cases l with
 | nil=>rfl
 | cons q l=>cases l <;> rfl
def JZ (w : Bs) : PR (List Tm) → PR Fm
 | .bad r=>.bad r
 | .good ts r=>.good (.mk 1 w ts []) r
theorem yE {w : Bs} {p : PR (List Tm)} {ts : List Tm} {f : Bool} {rest : List Bs} (h : PrOk p ts f rest) : PrOk (JZ w p) (.mk 1 w ts []) f rest:=by
 cases p with
 | bad r=>exact h
 | good y r=>obtain ⟨rfl,h2,h3⟩:=h;exact ⟨rfl,h2,h3⟩
theorem JX (n : Nat) (w : Bs) (l : List Bs) (h : keyed w = false) (hp : bN w = true) : bJ (n + 1) (w :: l) = JZ w (eM n l):=by
 obtain ⟨h1,h2,h3,h4⟩:=qP hp
 simp only [bJ,if_neg h1,h2,h3,if_neg h4,ne_eq,not_true_eq_false,if_false,hp,if_true]
 cases eM n l <;> rfl
theorem keyed_of {s : Bs} (h : keyed s = false) : s ≠ cF ∧ iF s = 0 ∧ iO s = 0 ∧ s ≠ wFor:=by
 have hn : ∀ i ∈ cW,s ≠ dN i:=by
  intro i hi e
  have : s ∈ cW.map dN:=List.mem_map.2 ⟨i,hi,e.symm⟩
  simp [keyed,this] at h
 have k2 : s ≠ cF:=hn 2 (by decide)
 have k5 : s ≠ wNot:=hn 5 (by decide)
 have k8 : s ≠ wNec:=hn 8 (by decide)
 have k11 : s ≠ wPos:=hn 11 (by decide)
 have k14 : s ≠ iZ:=hn 14 (by decide)
 have k17 : s ≠ eO:=hn 17 (by decide)
 have k20 : s ≠ wFor:=hn 20 (by decide)
 have k23 : s ≠ nA:=hn 23 (by decide)
 have k26 : s ≠ hH:=hn 26 (by decide)
 have k29 : s ≠ wIf:=hn 29 (by decide)
 have k32 : s ≠ wAs:=hn 32 (by decide)
 have k35 : s ≠ jQ:=hn 35 (by decide)
 exact ⟨k2,by simp [iF, *],by simp [iO, *],k20⟩
theorem JV (n : Nat) (w : Bs) (l : List Bs) (h : keyed w = false) (hp : bN w = false) : bJ (n + 1) (w :: l) = .bad (w :: l):=by
 obtain ⟨h1,h2,h3,h4⟩:=keyed_of h
 simp only [bJ,if_neg h1,h2,h3,if_neg h4,ne_eq,not_true_eq_false,if_false,hp,Bool.false_eq_true]
theorem MO : Enters Tryz.prog 192:=fun _ _=>rfl
theorem MQ : Enters Tryz.prog 264:=fun _ _=>rfl
theorem MR : Enters Tryz.prog 267:=fun _ _=>rfl
theorem MP : Enters Tryz.prog 194:=fun _ _=>rfl
theorem key_read (I : RdIx) (ws : List Bs) (hw : ∀ x ∈ ws,x.length ≤ maxLen) (n : Nat) (hF : rD I ws n) (k : Nat) (w : World) (h : Rd w I ws (k + 1) false) (tb : Tb w I) (hn : 3 * (ws.length - k) + 1 ≤ n + 1) {x : Bs} (hk : ws[k]? = some x) {i : Nat} (hi : i ∈ cW) (hx : x = dN i)
  {g : Fn} {fs cs : Array Value} (iv : IV w I.S i (.func g fs cs)) : ∃ id,g = .func id ∧ Enters Tryz.prog id ∧ Calls Tryz.prog id (fs ++ cs) w (Out I ws w (bJ (n + 1) (ws.drop k)) bV):=by
 have hlt:=(List.getElem?_eq_some_iff.1 hk).1
 have hb : 3 * (ws.length - (k + 1)) + 1 ≤ n:=by omega
 rw [drop_at hk]
 subst hx
 have one' : ∀ op,rA w I.S op (.func g fs cs) → dN i ≠ cF → iF (dN i) = op → op ≠ 0 → ∃ id,g = .func id ∧ Enters Tryz.prog id ∧ Calls Tryz.prog id (fs ++ cs) w (Out I ws w (bJ (n + 1) (dN i :: ws.drop (k + 1))) bV):=by
  rintro op ⟨b1,b2,e,h1,h2⟩ hne ho h0
  cases e
  refine ⟨264,rfl,MQ, ?_⟩
  rw [LO n _ _ hne (by rw [ho];exact h0),ho]
  exact one1_c I ws n hF op b1 b2 (k + 1) w h tb hb h1 h2
 have two' : ∀ op b,rB w I.S op b (.func g fs cs) → dN i ≠ cF → iF (dN i) = 0 → iO (dN i) = op → op ≠ 0 → aG op = b → ∃ id,g = .func id ∧ Enters Tryz.prog id ∧ Calls Tryz.prog id (fs ++ cs) w (Out I ws w (bJ (n + 1) (dN i :: ws.drop (k + 1))) bV):=by
  rintro op b ⟨b1,b2,b3,e,h1,h2,h3⟩ hne h1' ho h0 hsb
  cases e
  refine ⟨267,rfl,MR, ?_⟩
  rw [LP n _ _ hne h1' (by rw [ho];exact h0),ho,hsb]
  exact two1_c I ws hw n hF op b b1 b2 b3 (k + 1) w h tb hb h1 h2 h3
 simp only [cW,List.mem_cons,List.mem_nil_iff,or_false] at hi
 rcases hi with rfl | rfl | rfl | rfl | rfl | rfl | rfl | rfl | rfl | rfl | rfl | rfl
 ·have e : Value.func g fs cs = .func (.func 192) #[] #[]:=by simpa [IV] using iv
  cases e
  refine ⟨192,rfl,MO,(JH w).mono fun e w' ⟨he,hb⟩=>?_⟩
  rw [show dN 2 = cF from rfl,FU]
  exact ⟨.mk 2 [] [] [],_,k + 1,false,he,⟨none,0,0,none,0,0,rfl,At.sl_nil (Nat.zero_le _),At.sl_nil (Nat.zero_le _)⟩,aN.of_below hb,h.below hb,rfl,rfl,rfl⟩
 ·exact one' 3 iv (by decide) (by decide) (by decide)
 ·exact one' 10 iv (by decide) (by decide) (by decide)
 ·exact one' 11 iv (by decide) (by decide) (by decide)
 ·exact one' 12 iv (by decide) (by decide) (by decide)
 ·exact one' 13 iv (by decide) (by decide) (by decide)
 ·have e : Value.func g fs cs = .func (.func 194) #[one I.S] #[]:=iv
  cases e
  refine ⟨194,rfl,MP, ?_⟩
  rw [show dN 20 = wFor from rfl,LI]
  exact quant_c I ws hw n hF (k + 1) w h tb hb
 ·exact two' 4 wAnd iv (by decide) (by decide) (by decide) (by decide) (by decide)
 ·exact two' 5 wOr iv (by decide) (by decide) (by decide) (by decide) (by decide)
 ·exact two' 6 zG iv (by decide) (by decide) (by decide) (by decide) (by decide)
 ·exact two' 7 wSo iv (by decide) (by decide) (by decide) (by decide) (by decide)
 ·exact two' 14 mK iv (by decide) (by decide) (by decide) (by decide) (by decide)
theorem hw2 {ws : List Bs} (hw : ∀ x ∈ ws,x.length ≤ maxLen) {k : Nat} {x : Bs} (h : ws[k]? = some x) : x.length ≤ maxLen:=hw x (List.mem_of_getElem? h)
theorem form_of (I : RdIx) (ws : List Bs) (hw : ∀ x ∈ ws,x.length ≤ maxLen) (n : Nat) (hF : rD I ws n) : rD I ws (n + 1):=by
 intro k f w h tb hn
 cases f with
 | true=>exact uZ I ws hw k w h tb
 | false =>
 have hn:=hn rfl
 have hB : Below w.heap.size w ((w.alloc (.cells #[one I.S] 153)).alloc (.cells #[.int .u8 0,str [],.slice none 0 0,.slice none 0 0] 25)):=bnew.alloc (by simp) _
 have hbx : ((w.alloc (.cells #[one I.S] 153)).alloc (.cells #[.int .u8 0,str [],.slice none 0 0,.slice none 0 0] 25)).heap[w.heap.size]? = some (.cells #[one I.S] 153 (0,0)):=heap_alloc2_old _ _ _
 have hrow : ((w.alloc (.cells #[one I.S] 153)).alloc (.cells #[.int .u8 0,str [],.slice none 0 0,.slice none 0 0] 25)).heap[w.heap.size + 1]? = some (.cells #[.int .u8 0,str [],.slice none 0 0,.slice none 0 0] 25 (0,0)):=heap_alloc2_new _ _ _
 have r1:=h.below hB
 have M1:=iB I ws k false 197 #[] #[one w.heap.size] _ _ r1 hw JF (wD r1 (tb.moved h (aN.of_below hB)) hbx)
 have HM:=Hd M1
 have H:=Hd h
 have HB:=Hd hB
 have HR:=Hd hrow
 have HX:=Hd hbx
 have LT:=Hd h.lt
 have TB:=Hd (tb.moved h (aN.of_below hB))
 have HN:=Hd hn
 have HF:=Hd hF
 have HW:=Hd hw
 have R1:=Hd r1
 clear h tb hB hbx hrow r1 M1 hn hF hw
 go_enter Tryz.func117,Tryz.ntmps117
 go_upto_region 2 with (go_at_call 196;refine HM.out.mono ?_;rintro e w2 mp;obtain ⟨x,k2,f2,rfl,mv,r2,mw⟩:=iE mp;have QQ:=Hd (And.intro mv (And.intro r2 mw));clear mp mv r2 mw)
 obtain ⟨mv,r2,mw⟩:=QQ.out
 have G2:=mv.keepc R1.out (by decide) (by decide) HR.out
 have X2:=cell_of_one (mv.keepc R1.out (by decide) (by decide) HX.out)
 have s2:=qW r2
 have s3 : w2.cell? ⟨I.S,3,none⟩ = some (.map (some I.M)):=by rw [box_cell r2.hS];rfl
 have T2:=TB.out.moved R1.out mv
 obtain ⟨c0,c1,c2,c3,f0,f1,f2',f3⟩:=iA G2
 have hsz : w.heap.size + 2 ≤ w2.heap.size:=by have:=(Array.getElem?_eq_some_iff.1 G2).1;omega
 have MV:=Hd ((aN.of_below HB.out).trans mv)
 have G2h:=Hd G2
 have SZ:=Hd hsz
 have R2:=Hd r2
 rcases mw with ⟨_,hx,hp,rfl,rfl⟩ | ⟨hor,rfl,rfl,rfl⟩
 ·have hl:=hw2 HW.out hx
  rcases T2.key x hl with ⟨hk,i,hi,e,g,fs,cs,iv,L⟩ | ⟨hk,L⟩
  ·obtain ⟨id,rfl,en,cal⟩:=key_read I ws HW.out n HF.out k w2 r2 T2 HN.out hx hi e iv
   have HC:=Hd cal
   have en' : ∀ (args : Array Value) (w : World),(callFunc id args).run Tryz.prog w = .ok (.enter id args) w:=en
   have N:=xY (.func id) fs cs w2
   clear G2 T2 mv r2 QQ hx hp hk hi e iv cal en
   go_wp2_with fail
   refine HC.out.mono ?_
   rintro e w7 ⟨fx,v,k7,f7,rfl,⟨a,na,ca,b,nb,cb,rfl,ht,hs⟩,mv7,r7,hp7⟩
   have G7:=mv7.keepc R2.out (by decide) (by decide) G2h.out
   clear c0 c1 c2 c3 f0 f1 f2' f3 L N en' X2 s3 s2
   obtain ⟨c0,c1,c2,c3,f0,f1,f2',f3⟩:=iA G7
   have Q7:=Hd (And.intro ht (And.intro hs (And.intro mv7 (And.intro r7 (And.intro hp7 G7)))))
   clear ht hs mv7 r7 hp7 G7
   go_wp2_with fail
   obtain ⟨ht,hs,mv7,r7,hp7,G7⟩:=Q7.out
   obtain ⟨g4,v4,m4,r4⟩:=lE (fm:=fx) (w1:=w2) H.out r7 (MV.out.trans mv7) (by omega) (by omega) (by omega) G7 ht hs _ rfl
   refine bodyPost_ret (jF rfl _ _ (w.heap.size + 1) _ _ _ _ (0,0) rfl g4) rfl ?_
   exact ⟨_,_,k7,f7,rfl,v4,m4,r4,hp7⟩
  ·have hpn : bN x = true:=by simpa [hk] using hp
   have HP:=Hd (JX n x (ws.drop (k + 1)) hk hpn)
   have HD:=Hd (drop_at hx)
   have HC:=Hd (terms_c I ws HW.out n (k + 1) w2 r2 (by have:=HN.out;have:=(List.getElem?_eq_some_iff.1 hx).1;omega))
   have N:=DV w2
   clear G2 T2 mv r2 QQ hx hp hk hpn
   go_wp2_with (go_at_call 199;refine HC.out.mono ?_;rintro e w7 ⟨ts,v,k7,f7,rfl,ht,mv7,r7,hp7⟩;obtain ⟨a,na,ca,rfl⟩:=bI.slice ht;have G7:=mv7.keepc R2.out (by decide) (by decide) G2h.out;clear c0 c1 c2 c3 f0 f1 f2' f3 L N X2 s3 s2;obtain ⟨c0,c1,c2,c3,f0,f1,f2',f3⟩:=iA G7;have Q7:=Hd (And.intro ht (And.intro mv7 (And.intro r7 (And.intro hp7 G7))));clear ht mv7 r7 hp7 G7)
   obtain ⟨ht,mv7,r7,hp7,G7⟩:=Q7.out
   obtain ⟨g4,v4,m4,r4⟩:=lE (fm:=.mk 1 x ts []) (b:=none) (m:=0) (d:=0) (w1:=w2) H.out r7 (MV.out.trans mv7) (by omega) (by omega) (by omega) G7 ht (At.sl_nil (Nat.zero_le _)) _ rfl
   refine bodyPost_ret (jF rfl _ _ (w.heap.size + 1) _ _ _ _ (0,0) rfl g4) rfl ?_
   refine ⟨_,_,k7,f7,rfl,v4,m4,r4, ?_⟩
   show PrOk (bJ (n + 1) (ws.drop k)) _ _ _
   rw [HD.out,HP.out];exact yE hp7
 ·have HO:=Hd hor
  clear G2 T2 mv r2 QQ hor
  go_wp2_with fail
  obtain ⟨g4,v4,m4,r4⟩:=lE (fm:=.mk 0 [] [] []) (a:=none) (b:=none) (n:=0) (c:=0) (m:=0) (d:=0) (w1:=w2) H.out R2.out MV.out (by omega) (by omega) (by omega) G2h.out (At.sl_nil (Nat.zero_le _)) (At.sl_nil (Nat.zero_le _)) _ rfl
  refine bodyPost_ret (jF rfl _ _ (w.heap.size + 1) _ _ _ _ (0,0) rfl g4) rfl ?_
  refine ⟨_,_,_,true,rfl,v4,m4,r4, ?_⟩
  show PrOk (bJ (n + 1) (ws.drop k2)) _ _ _
  rcases HO.out with h | h | ⟨y,hy,hp⟩
  ·cases h
  ·rw [gB h];exact ⟨rfl,rfl⟩
  ·rw [drop_at hy]
   simp only [Bool.or_eq_false_iff] at hp
   rw [JV n y _ hp.1 hp.2]
   exact ⟨rfl,rfl⟩
theorem oP (I : RdIx) (ws : List Bs) (hw : ∀ x ∈ ws,x.length ≤ maxLen) : ∀ n,rD I ws n
 | 0=>fun k f w h tb hn=>by
  cases f with
  | true=>exact uZ I ws hw k w h tb
  | false=>have:=hn rfl;omega
 | n + 1=>form_of I ws hw n (oP I ws hw n)
open Go Go.RowKit Ly
set_option maxHeartbeats 4000000
def kL (w : World) : Prop:=∃ m : Int,w.cell? ⟨1,0,none⟩ = some (.int .i64 m)
theorem kL.keep {w w' : World} (h : kL w) (k : aR w w') : kL w':=by obtain ⟨m,h⟩:=h;exact ⟨m,k _ _ h⟩
theorem yT (sep : Bs) : ∀ (k : Nat) (s x : Bs),x ∈ Lib.splitK sep 0 k s → x.length ≤ s.length
 | 0,s,x,h=>by simp [Lib.splitK] at h;subst h;exact Nat.le_refl _
 | k + 1,s,x,h=>by
  unfold Lib.splitK at h
  split at h
  ·simp at h;subst h;exact Nat.le_refl _
  ·rcases List.mem_cons.1 h with rfl | h
   ·simp;omega
   ·have:=yT sep k _ x h;simp at this;omega
theorem yS (s : Bs) : (Lib.splitB ⟨#[32]⟩ 0 (Lib.countB ⟨s.toArray⟩ ⟨#[32]⟩) ⟨s.toArray⟩).map Value.string = (Lib.split s [32]).map str:=by
 have h:=Lib.splitB_data ⟨#[32]⟩ 0 (Lib.countB ⟨s.toArray⟩ ⟨#[32]⟩) ⟨s.toArray⟩
 have e : Lib.split s [32] = Lib.splitK [32] 0 (Lib.countB ⟨s.toArray⟩ ⟨#[32]⟩) s:=by unfold Lib.split Lib.countB;simp
 rw [e]
 have h' : (Lib.splitB ⟨#[32]⟩ 0 (Lib.countB ⟨s.toArray⟩ ⟨#[32]⟩) ⟨s.toArray⟩).map (·.data.toList) = Lib.splitK [32] 0 (Lib.countB ⟨s.toArray⟩ ⟨#[32]⟩) s:=by simpa using h
 rw [← h',List.map_map]
 refine List.map_congr_left fun b _=>?_
 simp [str]
theorem tM (s : Bs) : (Lib.split s [32]).length = Lib.countB ⟨s.toArray⟩ ⟨#[32]⟩ + 1:=by
 have h:=congrArg List.length (yS s)
 simp only [List.length_map] at h
 rw [← h,Lib.splitB_all _ (by decide) 0 _ _ rfl]
theorem KB (s : Bs) (hs : s.length ≤ 1000000) (w : World) (hm : kL w) :
  Calls Tryz.prog 31 #[str s,str [32]] w fun e w'=>(∃ n c,e = .returned (.slice (some ⟨w.heap.size,0,none⟩) n c) ∧ aU w' (Lib.split s [32]) (.slice (some ⟨w.heap.size,0,none⟩) n c) ∧ w.heap.size < w'.heap.size) ∧ Below w.heap.size w w':=by
 obtain ⟨m,hm⟩:=hm
 refine (Tryz.strings_Split ⟨s.toArray⟩ ⟨#[32]⟩ m w (by simp [ByteArray.size];omega) hm (by decide)).mono fun e w' ⟨h1,h2⟩=>?_
 subst h2
 refine ⟨⟨_,_,h1, ?_,by simp⟩,bnew⟩
 have hl:=tM s
 rw [yS,← hl]
 have hc : Lib.countB ⟨s.toArray⟩ ⟨#[32]⟩ ≤ 1000000:=by
  have:=Lib.countB_le ⟨#[32]⟩ (by decide) _ ⟨s.toArray⟩ (Nat.le_refl _)
  simp [ByteArray.size] at this;omega
 refine At.sl_mk (by simp) (Nat.le_refl _) (by rw [hl];unfold maxLen;omega) fun j d hd=>?_
 rw [List.getElem?_map] at hd
 obtain ⟨y,hy,rfl⟩:=Option.map_eq_some_iff.1 hd
 refine ⟨str y, ?_,rfl⟩
 rw [box_cell (heap_alloc_new w _)]
 simp [hy]
def bC (s : Bs) : List Bs:=if s = [] then [] else Lib.split s [32]
def fV (s : Bs) : PR Fm:=bJ (3 * (bC s).length + 1) (bC s)
theorem vZ (s : Bs) (hs : s.length ≤ 1000000) : (bC s).length ≤ s.length + 1 ∧ ∀ x ∈ bC s,x.length ≤ maxLen:=by
 unfold bC
 split
 ·exact ⟨by simp,fun x h=>by cases h⟩
 ·refine ⟨?_,fun x hx=>?_⟩
  ·rw [tM]
   have:=Lib.countB_le ⟨#[32]⟩ (by decide) _ ⟨s.toArray⟩ (Nat.le_refl _)
   simp [ByteArray.size] at this;omega
  ·have:=yT [32] _ _ x hx
   unfold maxLen;omega
def pU (s : Bs) (w : World) (e : Ending) (w' : World) : Prop :=
 Below w.heap.size w w' ∧
 ((∃ f v,fV s = .good f [] ∧ e = .returned (.tuple #[v,.int .i64 0,.int .i64 0]) ∧ bV (hide (lo w) w') f v) ∨
  (∃ r : List Bs,(fV s = .bad r ∨ ∃ f,fV s = .good f r ∧ r ≠ []) ∧ e = .returned (.tuple #[.agg #[.int .u8 0,str [],.slice none 0 0,.slice none 0 0],.int .i64 ((bC s).length - r.length : Nat),.int .i64 410])))
open Go Go.RowKit Ly
set_option maxHeartbeats 4000000
def ListW (w : World) (ws : List Bs) (v : Value) (wx : World) : Prop:=∃ la ln lc,v = .slice la ln lc ∧ aU wx ws (.slice la ln lc) ∧ (∀ a,la = some a → a.block < wx.heap.size) ∧ Below w.heap.size w wx
theorem lW {I : RdIx} {w w1 w2 : World} (h : Below w.heap.size w w1) (m : aN I w1 w2) (hA : w.heap.size ≤ I.A) (hS : w.heap.size ≤ I.S) : Below w.heap.size w w2 :=
 ⟨m.os.trans h.os,m.tape.trans h.tape,m.output.trans h.output,Nat.le_trans h.size m.size,fun k hk=>(m.block k (Nat.lt_of_lt_of_le hk h.size) (by omega) (by omega)).trans (h.block k hk)⟩
theorem LU (tmps : Array Value) (w : World) (g : Nat) (a b c d y z : Value) (fr : Nat × Nat) (h2 : tmps.getD 2 undef = one g) (h3 : tmps.getD 3 undef = y) (h4 : tmps.getD 4 undef = z) (hg : w.heap[g]? = some (.cells #[a,b,c,d] 25 fr)) :
  (results Tryz.f43 tmps).run Tryz.prog w = .ok (.tuple #[.agg #[a,b,c,d],y,z]) w:=by
 obtain ⟨fs,h1⟩:=u25
 have e2 : tmps[2]?.getD undef = .pointer (some ⟨g,0,none⟩):=by simpa using h2
 have e3 : tmps[3]?.getD undef = y:=by simpa using h3
 have e4 : tmps[4]?.getD undef = z:=by simpa using h4
 simp [results,Tryz.results43,e2,e3,e4,asAddr,run_loadVar_row w g 25 25 #[a,b,c,d] fr _ hg h1 rfl i25]
theorem wE {w3 w4 w5 : World} {g : Nat} (ba : Below w4.heap.size w4 w5) (hz : g < w3.heap.size) : aR (hide (lo w3) w4) (hide (fun k=>decide (k < g + 1)) w5):=aV fun k h1 h2=>by
 simp only [lo,decide_eq_false_iff_not,Nat.not_lt] at h2
 exact ⟨by simp;omega,ba.block k h1⟩
theorem AF {w5 w7 : World} {p : Nat → Bool} (ba : Below w5.heap.size w5 w7) : aR (hide p w5) (hide p w7):=aV fun k h1 h2=>⟨h2,ba.block k h1⟩
theorem kF {s : Bs} {w w7 : World} {a b c d y z : Value} {tmps : Array Value} (B : Below w.heap.size w w7) (hg : w7.heap[w.heap.size]? = some (.cells #[.int .u8 0,str [],.slice none 0 0,.slice none 0 0] 25 (0,0)))
  (h2 : tmps.getD 2 undef = one w.heap.size) (h3 : tmps.getD 3 undef = y) (h4 : tmps.getD 4 undef = z)
  (post : ∀ w',Below w.heap.size w w' → aR (hide (fun k=>decide (k < w.heap.size + 1)) w7) (hide (lo w) w') → pU s w (.returned (.tuple #[.agg #[a,b,c,d],y,z])) w') :
  bodyPost Tryz.prog Tryz.f43 (pU s w) .ret ⟨tmps,[]⟩ ((((w7.setCell ⟨w.heap.size,0,none⟩ a).setCell ⟨w.heap.size,1,none⟩ b).setCell ⟨w.heap.size,2,none⟩ c).setCell ⟨w.heap.size,3,none⟩ d):=by
 have g1:=aC (o:=0) (u:=a) hg
 have g2:=aC (o:=1) (u:=b) g1
 have g3:=aC (o:=2) (u:=c) g2
 have g4:=aC (o:=3) (u:=d) g3
 refine bodyPost_ret (LU tmps _ w.heap.size a b c d y z (0,0) h2 h3 h4 g4) rfl ?_
 refine post _ ((((B.setCell (by simp) _).setCell (by simp) _).setCell (by simp) _).setCell (by simp) _) (aV fun k h1 h2=>?_)
 simp only [decide_eq_false_iff_not,Nat.not_lt,lo] at h2 ⊢
 have hne : k ≠ w.heap.size:=by omega
 exact ⟨by omega,by rw [Below.heap_setCell _ _ _ _ hne,Below.heap_setCell _ _ _ _ hne,Below.heap_setCell _ _ _ _ hne,Below.heap_setCell _ _ _ _ hne]⟩
structure At8 (s : Bs) (w : World) (I : RdIx) (x : Fm) (k : Nat) (f : Bool) (a : Option Addr) (na ca : Nat) (b : Option Addr) (nb cb : Nat) (h : Nat) (wx : World) : Prop where
 rd : Rd wx I (bC s) k f
 bw : Below w.heap.size w wx
 g : wx.heap[w.heap.size]? = some (.cells #[.int .u8 0,str [],.slice none 0 0,.slice none 0 0] 25 (0,0))
 cell : wx.heap[h]? = some (.cells #[.int .u8 x.op,str x.name,.slice a na ca,.slice b nb cb] 25 (0,0))
 ok : PrOk (fV s) x f ((bC s).drop k)
 ht : bI (hide (fun k=>decide (k < w.heap.size + 1)) wx) x.args (.slice a na ca)
 hs : cD (hide (fun k=>decide (k < w.heap.size + 1)) wx) x.sub (.slice b nb cb)
 rows : dV wx
structure II (s : Bs) (w wx : World) (v : Value) : Prop where
 list : ListW w (bC s) v wx
 rows : dV wx
 row : wx.heap[w.heap.size]? = some (.cells #[.int .u8 0,str [],.slice none 0 0,.slice none 0 0] 25 (0,0))
theorem At8.bad {s : Bs} {w wx : World} {I : RdIx} {x : Fm} {k : Nat} {f : Bool} {a : Option Addr} {na ca : Nat} {b : Option Addr} {nb cb : Nat} {h : Nat} (A : At8 s w I x k f a na ca b nb cb h wx) (hm : f = true ∨ decide (k < (bC s).length) = true) (w' : World) (B : Below w.heap.size w w') : pU s w (.returned (.tuple #[.agg #[.int .u8 0,str [],.slice none 0 0,.slice none 0 0],.int .i64 k,.int .i64 410])) w':=by
 refine ⟨B,.inr ⟨(bC s).drop k, ?_, ?_⟩⟩
 ·cases f with
  | true=>exact .inl (yG A.ok)
  | false =>
   refine .inr ⟨x,fN A.ok, ?_⟩
   rcases hm with h | h
   ·cases h
   ·intro e
    have h1 : k < (bC s).length:=by simpa using h
    have:=congrArg List.length e
    simp at this;omega
 ·have h1:=A.rd.at_
  have e : (bC s).length - ((bC s).drop k).length = k:=by simp;omega
  rw [e]
theorem At8.good {s : Bs} {w wx : World} {I : RdIx} {x : Fm} {k : Nat} {a : Option Addr} {na ca : Nat} {b : Option Addr} {nb cb : Nat} {h : Nat} (A : At8 s w I x k false a na ca b nb cb h wx) (hm : decide (k < (bC s).length) = false) (w' : World) (B : Below w.heap.size w w') (K : aR (hide (fun k=>decide (k < w.heap.size + 1)) wx) (hide (lo w) w')) :
  pU s w (.returned (.tuple #[.agg #[.int .u8 x.op,str x.name,.slice a na ca,.slice b nb cb],.int .i64 0,.int .i64 0])) w':=by
 refine ⟨B,.inl ⟨x,_, ?_,rfl,⟨_,_,_,_,_,_,rfl,A.ht.keep K,A.hs.keep K⟩⟩⟩
 rw [fN A.ok,List.drop_of_length_le (by simpa using hm)]
theorem yJ {s : Bs} {w wx : World} {I : RdIx} {x : Fm} {k : Nat} {a : Option Addr} {na ca : Nat} {b : Option Addr} {nb cb : Nat} {h : Nat} (hr : ∀ f,fV s = .good f [] → f.right = true) (A : At8 s w I x k false a na ca b nb cb h wx) (hm : decide (k < (bC s).length) = false) : x.right = true:=by
 refine hr x ?_
 rw [fN A.ok,List.drop_of_length_le (by simpa using hm)]
theorem Read_c (s : Bs) (hs : s.length ≤ 16384) (hr : ∀ f,fV s = .good f [] → f.right = true) (w : World) (hm : kL w) (rows : dV w) : Calls Tryz.prog 43 #[str s] w (pU s w):=by
 have hB : Below w.heap.size w (w.alloc (.cells #[.int .u8 0,str [],.slice none 0 0,.slice none 0 0] 25)):=bnew
 have hrow : (w.alloc (.cells #[.int .u8 0,str [],.slice none 0 0,.slice none 0 0] 25)).heap[w.heap.size]? = some (.cells #[.int .u8 0,str [],.slice none 0 0,.slice none 0 0] 25 (0,0)):=heap_alloc_new w _
 have HS:=Hd hs
 have HR:=Hd hr
 have HM:=Hd (hm.keep (aA hB))
 have RW:=Hd (rows.keep (aA hB))
 have RO:=Hd rows
 have HB:=Hd hB
 have HG:=Hd hrow
 have hl : (s.length : Int) ≤ 16384:=by omega
 have hl2 : ¬ (16384 : Int) < s.length:=by omega
 have WL:=Hd (vZ s (by omega))
 clear hs hr hm rows hB hrow
 have cut : ∃ b : Bool,s.isEmpty = b:=⟨_,rfl⟩
 obtain ⟨bE,hE⟩:=cut
 have HE:=Hd hE
 go_enter Tryz.func43,Tryz.ntmps43
 cases bE
 ·have hne : ¬ s = []:=by rw [← List.isEmpty_iff,hE];simp
  have e2 : (s == []) = false:=by simpa using hne
  have HN:=Hd hne
  go_upto_region 6 with (go_at_call 31;refine (KB s (by have:=HS.out;omega) _ HM.out).mono ?_;rintro e w2 ⟨⟨nl,cl,rfl,hsa,hlt⟩,hb2⟩;have B2:=Hd (And.intro hsa (And.intro hlt hb2));clear hsa hlt hb2)
  have A6 : Hid (II s w w2 (.slice (some ⟨w.heap.size + 1,0,none⟩) nl cl)):=by
   obtain ⟨hsa,hlt,hb2⟩:=B2.out
   refine ⟨⟨_,_,_,rfl, ?_, ?_,HB.out.trans (hb2.mono (by simp))⟩,RW.out.keep (aA hb2),(hb2.block w.heap.size (by simp)).trans HG.out⟩
   ·unfold bC;rw [if_neg HN.out];simpa using hsa
   ·intro a h;cases h;simpa using hlt
  clear hE hne e2 HN B2
  obtain ⟨⟨la,ln,lc,ev,hsa,hla,hbw⟩,rows6,row6⟩:=A6.out
  cases ev
  have LA:=Hd (And.intro hsa hla)
  have BW:=Hd hbw
  have R6:=Hd rows6
  have G6:=Hd row6
  clear hsa hla hbw rows6 row6 A6
  go_upto_region 8 with (first
   | (go_at_call 116;refine (mA _ _ _ _ _ LA.out.1 LA.out.2 (by have:=WL.out.1;have:=HS.out;omega)).mono ?_;rintro e w3 ⟨I,rfl,rd,tb,bw,hA,hS⟩;have RD:=Hd rd;have TB:=Hd tb;have B3:=Hd (And.intro bw (And.intro hA hS));clear rd tb bw hA hS)
   | (go_at_call 117;refine (oP I _ WL.out.2 _ 0 false _ RD.out TB.out (fun _=>Nat.le_refl _)).mono ?_;rintro e w4 ⟨x,v,k,f,rfl,⟨a,na,ca,b,nb,cb,rfl,ht,hs⟩,mv,r4,hp⟩;have Q4:=Hd (And.intro ht (And.intro hs (And.intro mv (And.intro r4 hp))));clear ht hs mv r4 hp))
  have A8 : Hid (At8 s w I x k f a na ca b nb cb w4.heap.size (w4.alloc (.cells #[.int .u8 x.op,str x.name,.slice a na ca,.slice b nb cb] 25))):=by
   obtain ⟨ht,hs,mv,r4,hp⟩:=Q4.out
   obtain ⟨bw,hA,hS⟩:=B3.out
   have ba : Below w4.heap.size w4 (w4.alloc (.cells #[.int .u8 x.op,str x.name,.slice a na ca,.slice b nb cb] 25)):=bnew
   have b5 : Below w.heap.size w (w4.alloc (.cells #[.int .u8 x.op,str x.name,.slice a na ca,.slice b nb cb] 25)):=aB (lW (aB BW.out bw) mv (Nat.le_trans BW.out.size hA) (Nat.le_trans BW.out.size hS)) ba
   have gz:=(Array.getElem?_eq_some_iff.1 G6.out).1
   refine ⟨r4.below ba,b5, ?_,heap_alloc_new _ _,hp, ?_, ?_,RO.out.keep (aA b5)⟩
   ·rw [ba.block _ (by have:=mv.size;have:=bw.size;omega),mv.block _ (by have:=bw.size;omega) (by omega) (by omega),bw.block _ gz]
    exact G6.out
   ·exact ht.keep (wE ba (by have:=bw.size;omega))
   ·exact hs.keep (wE ba (by have:=bw.size;omega))
  show Code.wp _ _ _ _ (w4.alloc (.cells #[.int .u8 x.op,str x.name,.slice a na ca,.slice b nb cb] 25))
  generalize w4.heap.size = h5 at A8 ⊢
  generalize w4.alloc (.cells #[.int .u8 x.op,str x.name,.slice a na ca,.slice b nb cb] 25) = W5 at A8 ⊢
  have q1 : W5.cell? ⟨I.S,1,none⟩ = some (.func (.func 191) #[] #[one I.A,one I.L]):=(box_cell A8.out.rd.hS 1).trans rfl
  clear Q4 B3 TB RD LA BW R6 G6 RW HM
  obtain ⟨more,hmore⟩ : ∃ m : Bool,decide (k < (bC s).length) = m:=⟨_,rfl⟩
  have HMO:=Hd hmore
  clear hmore
  cases f <;> cases more
  all_goals go_wp2_with (first
   | (go_at_call 191;refine (DO I (bC s) k _ W5 A8.out.rd).mono ?_;rintro e w6 ⟨he,hb6⟩;rw [HMO.out] at he;subst he;have B6:=Hd hb6;have s2:=qW (A8.out.rd.below hb6);obtain ⟨c0,c1,c2,c3,f0,f1,f2,f3⟩:=iA ((hb6.block _ (Array.getElem?_eq_some_iff.1 A8.out.g).1).trans A8.out.g);obtain ⟨x0,x1,x2,x3,l0,l1,l2,l3⟩:=row25' ((hb6.block _ (Array.getElem?_eq_some_iff.1 A8.out.cell).1).trans A8.out.cell);clear hb6)
   | (go_at_call 85;refine (gU x _ _ (A8.out.rows.keep (aA B6.out)) ⟨_,_,_,_,_,_,rfl,A8.out.ht.keep ((fG _ _).trans (aA B6.out)),A8.out.hs.keep ((fG _ _).trans (aA B6.out))⟩ (yJ HR.out A8.out HMO.out)).mono ?_;rintro e w7 ⟨rfl,hb7⟩;clear c0 c1 c2 c3 f0 f1 f2 f3 x0 x1 x2 x3 l0 l1 l2 l3;have B7:=Hd (aB B6.out hb7);obtain ⟨c0,c1,c2,c3,f0,f1,f2,f3⟩:=iA ((B7.out.block _ (Array.getElem?_eq_some_iff.1 A8.out.g).1).trans A8.out.g);obtain ⟨x0,x1,x2,x3,l0,l1,l2,l3⟩:=row25' ((B7.out.block _ (Array.getElem?_eq_some_iff.1 A8.out.cell).1).trans A8.out.cell);clear hb7))
  ·exact kF (aB A8.out.bw B7.out) ((B7.out.block _ (Array.getElem?_eq_some_iff.1 A8.out.g).1).trans A8.out.g) rfl rfl rfl fun w' b K=>A8.out.good HMO.out w' b ((AF B7.out).trans K)
  ·exact kF (aB A8.out.bw B6.out) ((B6.out.block _ (Array.getElem?_eq_some_iff.1 A8.out.g).1).trans A8.out.g) rfl rfl rfl fun w' b K=>A8.out.bad (.inr HMO.out) w' b
  ·exact kF (aB A8.out.bw B6.out) ((B6.out.block _ (Array.getElem?_eq_some_iff.1 A8.out.g).1).trans A8.out.g) rfl rfl rfl fun w' b K=>A8.out.bad (.inl rfl) w' b
  ·exact kF (aB A8.out.bw B6.out) ((B6.out.block _ (Array.getElem?_eq_some_iff.1 A8.out.g).1).trans A8.out.g) rfl rfl rfl fun w' b K=>A8.out.bad (.inl rfl) w' b
 ·have hne : s = []:=List.isEmpty_iff.1 hE
  subst hne
  go_upto_region 6 with fail
  have A6 : Hid (II [] w (w.alloc (.cells #[.int .u8 0,str [],.slice none 0 0,.slice none 0 0] 25)) (.slice none 0 0)):=by
   refine ⟨⟨_,_,_,rfl, ?_, ?_,HB.out⟩,RW.out,HG.out⟩
   ·unfold bC;rw [if_pos rfl];exact At.sl_nil (Nat.zero_le _)
   ·rintro a h;cases h
  obtain ⟨⟨la,ln,lc,ev,hsa,hla,hbw⟩,rows6,row6⟩:=A6.out
  cases ev
  have LA:=Hd (And.intro hsa hla)
  have BW:=Hd hbw
  have R6:=Hd rows6
  have G6:=Hd row6
  clear hsa hla hbw rows6 row6 A6
  go_upto_region 8 with (first
   | (go_at_call 116;refine (mA _ _ _ _ _ LA.out.1 LA.out.2 (by have:=WL.out.1;have:=HS.out;omega)).mono ?_;rintro e w3 ⟨I,rfl,rd,tb,bw,hA,hS⟩;have RD:=Hd rd;have TB:=Hd tb;have B3:=Hd (And.intro bw (And.intro hA hS));clear rd tb bw hA hS)
   | (go_at_call 117;refine (oP I _ WL.out.2 _ 0 false _ RD.out TB.out (fun _=>Nat.le_refl _)).mono ?_;rintro e w4 ⟨x,v,k,f,rfl,⟨a,na,ca,b,nb,cb,rfl,ht,hs⟩,mv,r4,hp⟩;have Q4:=Hd (And.intro ht (And.intro hs (And.intro mv (And.intro r4 hp))));clear ht hs mv r4 hp))
  have A8 : Hid (At8 [] w I x k f a na ca b nb cb w4.heap.size (w4.alloc (.cells #[.int .u8 x.op,str x.name,.slice a na ca,.slice b nb cb] 25))):=by
   obtain ⟨ht,hs,mv,r4,hp⟩:=Q4.out
   obtain ⟨bw,hA,hS⟩:=B3.out
   have ba : Below w4.heap.size w4 (w4.alloc (.cells #[.int .u8 x.op,str x.name,.slice a na ca,.slice b nb cb] 25)):=bnew
   have b5 : Below w.heap.size w (w4.alloc (.cells #[.int .u8 x.op,str x.name,.slice a na ca,.slice b nb cb] 25)):=aB (lW (aB BW.out bw) mv (Nat.le_trans BW.out.size hA) (Nat.le_trans BW.out.size hS)) ba
   have gz:=(Array.getElem?_eq_some_iff.1 G6.out).1
   refine ⟨r4.below ba,b5, ?_,heap_alloc_new _ _,hp, ?_, ?_,RO.out.keep (aA b5)⟩
   ·rw [ba.block _ (by have:=mv.size;have:=bw.size;omega),mv.block _ (by have:=bw.size;omega) (by omega) (by omega),bw.block _ gz]
    exact G6.out
   ·exact ht.keep (wE ba (by have:=bw.size;omega))
   ·exact hs.keep (wE ba (by have:=bw.size;omega))
  show Code.wp _ _ _ _ (w4.alloc (.cells #[.int .u8 x.op,str x.name,.slice a na ca,.slice b nb cb] 25))
  generalize w4.heap.size = h5 at A8 ⊢
  generalize w4.alloc (.cells #[.int .u8 x.op,str x.name,.slice a na ca,.slice b nb cb] 25) = W5 at A8 ⊢
  have q1 : W5.cell? ⟨I.S,1,none⟩ = some (.func (.func 191) #[] #[one I.A,one I.L]):=(box_cell A8.out.rd.hS 1).trans rfl
  clear Q4 B3 TB RD LA BW R6 G6 RW HM
  obtain ⟨more,hmore⟩ : ∃ m : Bool,decide (k < (bC []).length) = m:=⟨_,rfl⟩
  have HMO:=Hd hmore
  clear hmore
  cases f <;> cases more
  all_goals go_wp2_with (first
   | (go_at_call 191;refine (DO I (bC []) k _ W5 A8.out.rd).mono ?_;rintro e w6 ⟨he,hb6⟩;rw [HMO.out] at he;subst he;have B6:=Hd hb6;have s2:=qW (A8.out.rd.below hb6);obtain ⟨c0,c1,c2,c3,f0,f1,f2,f3⟩:=iA ((hb6.block _ (Array.getElem?_eq_some_iff.1 A8.out.g).1).trans A8.out.g);obtain ⟨x0,x1,x2,x3,l0,l1,l2,l3⟩:=row25' ((hb6.block _ (Array.getElem?_eq_some_iff.1 A8.out.cell).1).trans A8.out.cell);clear hb6)
   | (go_at_call 85;refine (gU x _ _ (A8.out.rows.keep (aA B6.out)) ⟨_,_,_,_,_,_,rfl,A8.out.ht.keep ((fG _ _).trans (aA B6.out)),A8.out.hs.keep ((fG _ _).trans (aA B6.out))⟩ (yJ HR.out A8.out HMO.out)).mono ?_;rintro e w7 ⟨rfl,hb7⟩;clear c0 c1 c2 c3 f0 f1 f2 f3 x0 x1 x2 x3 l0 l1 l2 l3;have B7:=Hd (aB B6.out hb7);obtain ⟨c0,c1,c2,c3,f0,f1,f2,f3⟩:=iA ((B7.out.block _ (Array.getElem?_eq_some_iff.1 A8.out.g).1).trans A8.out.g);obtain ⟨x0,x1,x2,x3,l0,l1,l2,l3⟩:=row25' ((B7.out.block _ (Array.getElem?_eq_some_iff.1 A8.out.cell).1).trans A8.out.cell);clear hb7))
  ·exact kF (aB A8.out.bw B7.out) ((B7.out.block _ (Array.getElem?_eq_some_iff.1 A8.out.g).1).trans A8.out.g) rfl rfl rfl fun w' b K=>A8.out.good HMO.out w' b ((AF B7.out).trans K)
  ·exact kF (aB A8.out.bw B6.out) ((B6.out.block _ (Array.getElem?_eq_some_iff.1 A8.out.g).1).trans A8.out.g) rfl rfl rfl fun w' b K=>A8.out.bad (.inr HMO.out) w' b
  ·exact kF (aB A8.out.bw B6.out) ((B6.out.block _ (Array.getElem?_eq_some_iff.1 A8.out.g).1).trans A8.out.g) rfl rfl rfl fun w' b K=>A8.out.bad (.inl rfl) w' b
  ·exact kF (aB A8.out.bw B6.out) ((B6.out.block _ (Array.getElem?_eq_some_iff.1 A8.out.g).1).trans A8.out.g) rfl rfl rfl fun w' b K=>A8.out.bad (.inl rfl) w' b
end Go.Proofs.YtcandidgaegghaaGreatDoor
