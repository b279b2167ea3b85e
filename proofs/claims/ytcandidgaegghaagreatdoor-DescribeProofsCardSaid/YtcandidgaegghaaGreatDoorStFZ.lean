/- The reader once more, with blocks: formulas. Printed by gen/genst.py. -/
import Derived.Test.YtcandidgaegghaaGreatDoorCpZ
import Derived.Test.YtcandidgaegghaaGreatDoorStDZ
import Derived.Test.YtcandidgaegghaaGreatDoorRdGZ
import Derived.Test.YtcandidgaegghaaGreatDoorRefDZ
set_option maxRecDepth 10000
set_option linter.unusedSimpArgs false
set_option linter.unusedVariables false
namespace Go.Proofs.YtcandidgaegghaaGreatDoor
open Go Go.RowKit Ly
set_option maxHeartbeats 8000000
theorem yI {I : RdIx} {ws : List Bs} {w wq w7 : World} {op : Int} {v : Bs} {k0 k7 : Nat} {f0 f7 : Bool} {fx : Fm} {a : Option Addr} {na ca : Nat} {b : Option Addr} {nb cb : Nat} {pr : PR Fm} {tmps : Array Value} (H : Rd w I ws k0 f0) (S7 : QuS I ws w op v k7 f7 w7) (hq : w.heap.size + 2 ≤ wq.heap.size)
  (ht : TmsB (hide (lo wq) w7) fx.args (.slice a na ca)) (hs : FmsB (hide (lo wq) w7) fx.sub (.slice b nb cb)) (hp : PrOk pr (.mk op v [] [fx]) f7 (ws.drop k7)) (h2 : tmps.getD 2 undef = one w.heap.size) :
  bodyPost Tryz.prog Tryz.f194 (Out I ws w pr FmB) .ret ⟨tmps,[]⟩ ((((((w7.setCell ⟨w.heap.size + 1,3,none⟩ (.slice (some ⟨w7.heap.size,0,none⟩) 1 1)).setCell ⟨w.heap.size,0,none⟩ (.int .u8 op)).setCell ⟨w.heap.size,1,none⟩ (str v)).setCell ⟨w.heap.size,2,none⟩ (.slice none 0 0)).setCell ⟨w.heap.size,3,none⟩ (.slice (some ⟨w7.heap.size,0,none⟩) 1 1)).alloc (.cells #[.int .u8 fx.op,str fx.name,.slice a na ca,.slice b nb cb] 25)):=by
 have z7:=(Array.getElem?_eq_some_iff.1 S7.h).1
 have z8:=(Array.getElem?_eq_some_iff.1 S7.g).1
 have hz : ((w.alloc (.map #[] 0)).alloc (.map #[] 0)).heap.size = w.heap.size + 2:=by simp
 have K : bY (hide (lo wq) w7) (hide (lo ((w.alloc (.map #[] 0)).alloc (.map #[] 0))) w7):=mU (by omega) fun _ _ _=>rfl
 have fo:=xF (w1:=(w.alloc (.map #[] 0)).alloc (.map #[] 0)) (w2:=w7) (by omega) (ht.keep K) (hs.keep K)
 have K2 : bY (hide (lo ((w.alloc (.map #[] 0)).alloc (.map #[] 0))) (w7.alloc (.cells #[.int .u8 fx.op,str fx.name,.slice a na ca,.slice b nb cb] 25))) (hide (lo ((w.alloc (.map #[] 0)).alloc (.map #[] 0))) ((w7.alloc (.cells #[.int .u8 fx.op,str fx.name,.slice a na ca,.slice b nb cb] 25)).setCell ⟨w.heap.size + 1,3,none⟩ (.slice (some ⟨w7.heap.size,0,none⟩) 1 1))):=aS fun k h1 h2=>by
  refine ⟨h2,Below.heap_setCell _ _ _ _ ?_⟩
  simp only [lo,decide_eq_false_iff_not,Nat.not_lt,hz] at h2
  simp;omega
 have ba : Below w7.heap.size w7 (w7.alloc (.cells #[.int .u8 fx.op,str fx.name,.slice a na ca,.slice b nb cb] 25)):=bnew
 obtain ⟨g4,v4,m4,r4⟩:=jJ (fm:=.mk op v [] [fx]) (g:=w.heap.size) (a:=none) (n:=0) (c:=0) (w1:=(w.alloc (.map #[] 0)).alloc (.map #[] 0)) (w3:=(w7.alloc (.cells #[.int .u8 fx.op,str fx.name,.slice a na ca,.slice b nb cb] 25)).setCell ⟨w.heap.size + 1,3,none⟩ (.slice (some ⟨w7.heap.size,0,none⟩) 1 1)) H (H.set (S7.rd.below ba) (S7.mv.alloc _) _ _ _ (by omega)) ((S7.mv.alloc _).set (by omega) _) (Nat.le_refl _) (by omega) (by omega)
  ((Below.heap_setCell _ _ _ _ (by simp)).trans ((bnew.block _ z8).trans S7.g)) (AtB.nil) (fo.keep K2) _ rfl
 rw [World.setCell_alloc_past _ _ _ _ z7,kZ (by simpa [World.setCell] using z8)] at g4 v4 m4 r4
 refine bodyPost_ret (jF rfl _ _ w.heap.size _ _ _ _ (0,0) h2 g4) rfl ?_
 exact ⟨_,_,k7,f7,rfl,v4,m4,r4,hp⟩
theorem quant_cB (I : RdIx) (ws : List Bs) (hw : ∀ x ∈ ws,x.length ≤ maxLen) (n : Nat) (hF : nB I ws n) (k : Nat) (w : World) (h : Rd w I ws k false) (tb : Tb w I) (hn : 3 * (ws.length - k) + 1 ≤ n) :
  Calls Tryz.prog 194 #[one I.S] w (Out I ws w (mX n (ws.drop k)) FmB):=by
 have hB : Below w.heap.size w ((w.alloc (.cells #[.int .u8 0,str [],.slice none 0 0,.slice none 0 0] 25)).alloc (.cells #[.int .u8 8,str [],.slice none 0 0,.slice none 0 0] 25)):=bnew.alloc (by simp) _
 have S0 : QuS I ws w 8 [] k false ((w.alloc (.cells #[.int .u8 0,str [],.slice none 0 0,.slice none 0 0] 25)).alloc (.cells #[.int .u8 8,str [],.slice none 0 0,.slice none 0 0] 25)):=⟨h.below hB,aN.of_below hB,heap_alloc2_old _ _ _,heap_alloc2_new _ _ _⟩
 generalize hW : (w.alloc (.cells #[.int .u8 0,str [],.slice none 0 0,.slice none 0 0] 25)).alloc (.cells #[.int .u8 8,str [],.slice none 0 0,.slice none 0 0] 25) = W at S0
 have HS0:=Hd S0
 have H:=Hd h
 have TB:=Hd tb
 have HF:=Hd hF
 have HN:=Hd hn
 have HW:=Hd hw
 have HWW:=Hd hW
 clear h tb hF hn hw S0 hB hW
 go_enter Tryz.func194,Tryz.ntmps194
 go_upto_region 2 with fail
 rw [show (w.alloc (Obj.cells #[Value.int IntKind.u8 0,Value.string { data:=#[] },Value.slice none 0 0,Value.slice none 0 0] 25)).alloc (Obj.cells #[Value.int IntKind.u8 8,Value.string { data:=#[] },Value.slice none 0 0,Value.slice none 0 0] 25) = W from HWW.out]
 clear HWW
 go_upto_region 4 with (first
  | (go_at_call 265;refine (is_c (l:=[wAll,eA]) (wH W wAll eA 9) (by simp)).mono ?_;rintro e w3 ⟨⟨bf,rfl,acc⟩,b3⟩;have AC:=Hd acc;have B3 : Hid (Below W.heap.size W w3):=(bnew.trans (b3.mono (by simp)));clear acc b3)
  | (go_at_call 196;refine (iB I ws k false 299 #[] _ _ _ (HS0.out.rd.below B3.out) HW.out uU AC.out).mono ?_;rintro e w4 mp;obtain ⟨s,k3,f3,rfl,mv,r4,mw⟩:=iE mp;have S4:=HS0.out.moved ((aN.of_below B3.out).trans mv) r4;obtain ⟨y0,y1,y2,y3,g0,g1,g2,g3⟩:=row25' S4.h;have Q4:=Hd (And.intro S4 mw);clear S4 mp mv r4 mw))
 ·have hs : s = eA:=by show s = [115,111,109,101];first | assumption | (apply eq_of_beq;assumption)
  have HOP : Hid (f3 = false → (9 : Int) = if s = eA then 9 else 8):=fun _=>(if_pos hs).symm
  have Q5:=Hd (Q4.out.1.setH H.out (op':=9) (nm':=[]) 0 (.int .u8 9) rfl)
  clear hs y0 y1 y2 y3 g0 g1 g2 g3
  go_wp2_with (first
   | (go_at_call 196;refine (iB I ws k3 f3 266 #[] #[] _ _ Q5.out.rd HW.out JG (wK _)).mono ?_;rintro e w6 mp;obtain ⟨v,k4,f4,rfl,mv6,r6,mw6⟩:=iE mp;have S6:=Q5.out.moved mv6 r6;obtain ⟨y0,y1,y2,y3,g0,g1,g2,g3⟩:=row25' S6.h;have Q6:=Hd (And.intro S6 mw6);clear S6 mp mv6 r6 mw6)
   | (go_at_call 117;refine (HF.out k4 f4 _ (Q6.out.1.setH H.out (op':=9) (nm':=v) 1 (str v) rfl).rd (TB.out.moved H.out (Q6.out.1.setH H.out (op':=9) (nm':=v) 1 (str v) rfl).mv) (tE HN.out Q4.out.2 Q6.out.2)).mono ?_;rintro e w7 ⟨fx,v7,k7,f7,rfl,⟨a,na,ca,b,nb,cb,rfl,ht,hs⟩,mv7,r7,hp7⟩;have S7:=(Q6.out.1.setH H.out (op':=9) (nm':=v) 1 (str v) rfl).moved mv7 r7;clear y0 y1 y2 y3 g0 g1 g2 g3;obtain ⟨y0,y1,y2,y3,g0,g1,g2,g3⟩:=row25' S7.h;obtain ⟨x0,x1,x2,x3,l0,l1,l2,l3⟩:=row25' S7.g;have z7:=(Array.getElem?_eq_some_iff.1 S7.h).1;have z8:=(Array.getElem?_eq_some_iff.1 S7.g).1;have Q7:=Hd (And.intro S7 (And.intro ht (And.intro hs (And.intro mv7 hp7))));clear S7 ht hs mv7 r7 hp7))
  obtain ⟨S7,ht,hs,mv7,hp7⟩:=Q7.out
  exact yI H.out S7 (by have:=(Array.getElem?_eq_some_iff.1 Q6.out.1.h).1;simp [World.setCell];omega) ht hs (tF Q4.out.2 Q6.out.2 hp7 HOP.out) rfl
 ·have hs : ¬ s = eA:=by show ¬ s = [115,111,109,101];first | assumption | (apply ne_of_beq_false;assumption)
  have HOP : Hid (f3 = false → (8 : Int) = if s = eA then 9 else 8):=fun _=>(if_neg hs).symm
  have Q5:=Hd Q4.out.1
  clear hs y0 y1 y2 y3 g0 g1 g2 g3
  go_wp2_with (first
   | (go_at_call 196;refine (iB I ws k3 f3 266 #[] #[] _ _ Q5.out.rd HW.out JG (wK _)).mono ?_;rintro e w6 mp;obtain ⟨v,k4,f4,rfl,mv6,r6,mw6⟩:=iE mp;have S6:=Q5.out.moved mv6 r6;obtain ⟨y0,y1,y2,y3,g0,g1,g2,g3⟩:=row25' S6.h;have Q6:=Hd (And.intro S6 mw6);clear S6 mp mv6 r6 mw6)
   | (go_at_call 117;refine (HF.out k4 f4 _ (Q6.out.1.setH H.out (op':=8) (nm':=v) 1 (str v) rfl).rd (TB.out.moved H.out (Q6.out.1.setH H.out (op':=8) (nm':=v) 1 (str v) rfl).mv) (tE HN.out Q4.out.2 Q6.out.2)).mono ?_;rintro e w7 ⟨fx,v7,k7,f7,rfl,⟨a,na,ca,b,nb,cb,rfl,ht,hs⟩,mv7,r7,hp7⟩;have S7:=(Q6.out.1.setH H.out (op':=8) (nm':=v) 1 (str v) rfl).moved mv7 r7;clear y0 y1 y2 y3 g0 g1 g2 g3;obtain ⟨y0,y1,y2,y3,g0,g1,g2,g3⟩:=row25' S7.h;obtain ⟨x0,x1,x2,x3,l0,l1,l2,l3⟩:=row25' S7.g;have z7:=(Array.getElem?_eq_some_iff.1 S7.h).1;have z8:=(Array.getElem?_eq_some_iff.1 S7.g).1;have Q7:=Hd (And.intro S7 (And.intro ht (And.intro hs (And.intro mv7 hp7))));clear S7 ht hs mv7 r7 hp7))
  obtain ⟨S7,ht,hs,mv7,hp7⟩:=Q7.out
  exact yI H.out S7 (by have:=(Array.getElem?_eq_some_iff.1 Q6.out.1.h).1;simp [World.setCell];omega) ht hs (tF Q4.out.2 Q6.out.2 hp7 HOP.out) rfl
theorem key_readB (I : RdIx) (ws : List Bs) (hw : ∀ x ∈ ws,x.length ≤ maxLen) (n : Nat) (hF : nB I ws n) (k : Nat) (w : World) (h : Rd w I ws (k + 1) false) (tb : Tb w I) (hn : 3 * (ws.length - k) + 1 ≤ n + 1) {x : Bs} (hk : ws[k]? = some x) {i : Nat} (hi : i ∈ cW) (hx : x = dN i)
  {g : Fn} {fs cs : Array Value} (iv : IV w I.S i (.func g fs cs)) : ∃ id,g = .func id ∧ Enters Tryz.prog id ∧ Calls Tryz.prog id (fs ++ cs) w (Out I ws w (bJ (n + 1) (ws.drop k)) FmB):=by
 have hlt:=(List.getElem?_eq_some_iff.1 hk).1
 have hb : 3 * (ws.length - (k + 1)) + 1 ≤ n:=by omega
 rw [drop_at hk]
 subst hx
 have one' : ∀ op,rA w I.S op (.func g fs cs) → dN i ≠ cF → iF (dN i) = op → op ≠ 0 → ∃ id,g = .func id ∧ Enters Tryz.prog id ∧ Calls Tryz.prog id (fs ++ cs) w (Out I ws w (bJ (n + 1) (dN i :: ws.drop (k + 1))) FmB):=by
  rintro op ⟨b1,b2,e,h1,h2⟩ hne ho h0
  cases e
  refine ⟨264,rfl,MQ, ?_⟩
  rw [LO n _ _ hne (by rw [ho];exact h0),ho]
  exact one1_cB I ws n hF op b1 b2 (k + 1) w h tb hb h1 h2
 have two' : ∀ op b,rB w I.S op b (.func g fs cs) → dN i ≠ cF → iF (dN i) = 0 → iO (dN i) = op → op ≠ 0 → aG op = b → ∃ id,g = .func id ∧ Enters Tryz.prog id ∧ Calls Tryz.prog id (fs ++ cs) w (Out I ws w (bJ (n + 1) (dN i :: ws.drop (k + 1))) FmB):=by
  rintro op b ⟨b1,b2,b3,e,h1,h2,h3⟩ hne h1' ho h0 hsb
  cases e
  refine ⟨267,rfl,MR, ?_⟩
  rw [LP n _ _ hne h1' (by rw [ho];exact h0),ho,hsb]
  exact two1_cB I ws hw n hF op b b1 b2 b3 (k + 1) w h tb hb h1 h2 h3
 simp only [cW,List.mem_cons,List.mem_nil_iff,or_false] at hi
 rcases hi with rfl | rfl | rfl | rfl | rfl | rfl | rfl | rfl | rfl | rfl | rfl | rfl
 ·have e : Value.func g fs cs = .func (.func 192) #[] #[]:=by simpa [IV] using iv
  cases e
  refine ⟨192,rfl,MO,(JH w).mono fun e w' ⟨he,hb⟩=>?_⟩
  rw [show dN 2 = cF from rfl,FU]
  exact ⟨.mk 2 [] [] [],_,k + 1,false,he,⟨none,0,0,none,0,0,rfl,AtB.nil,AtB.nil⟩,aN.of_below hb,h.below hb,rfl,rfl,rfl⟩
 ·exact one' 3 iv (by decide) (by decide) (by decide)
 ·exact one' 10 iv (by decide) (by decide) (by decide)
 ·exact one' 11 iv (by decide) (by decide) (by decide)
 ·exact one' 12 iv (by decide) (by decide) (by decide)
 ·exact one' 13 iv (by decide) (by decide) (by decide)
 ·have e : Value.func g fs cs = .func (.func 194) #[one I.S] #[]:=iv
  cases e
  refine ⟨194,rfl,MP, ?_⟩
  rw [show dN 20 = wFor from rfl,LI]
  exact quant_cB I ws hw n hF (k + 1) w h tb hb
 ·exact two' 4 wAnd iv (by decide) (by decide) (by decide) (by decide) (by decide)
 ·exact two' 5 wOr iv (by decide) (by decide) (by decide) (by decide) (by decide)
 ·exact two' 6 zG iv (by decide) (by decide) (by decide) (by decide) (by decide)
 ·exact two' 7 wSo iv (by decide) (by decide) (by decide) (by decide) (by decide)
 ·exact two' 14 mK iv (by decide) (by decide) (by decide) (by decide) (by decide)
theorem form_ofB (I : RdIx) (ws : List Bs) (hw : ∀ x ∈ ws,x.length ≤ maxLen) (n : Nat) (hF : nB I ws n) : nB I ws (n + 1):=by
 intro k f w h tb hn
 cases f with
 | true=>exact sL I ws hw k w h tb
 | false =>
 have hn:=hn rfl
 have hB : Below w.heap.size w ((w.alloc (.cells #[one I.S] 153)).alloc (.cells #[.int .u8 0,str [],.slice none 0 0,.slice none 0 0] 25)):=bnew.alloc (by simp) _
 have hbx : ((w.alloc (.cells #[one I.S] 153)).alloc (.cells #[.int .u8 0,str [],.slice none 0 0,.slice none 0 0] 25)).heap[w.heap.size]? = some (.cells #[one I.S] 153 (0,0)):=heap_alloc2_old _ _ _
 have hrow : ((w.alloc (.cells #[one I.S] 153)).alloc (.cells #[.int .u8 0,str [],.slice none 0 0,.slice none 0 0] 25)).heap[w.heap.size + 1]? = some (.cells #[.int .u8 0,str [],.slice none 0 0,.slice none 0 0] 25 (0,0)):=heap_alloc2_new _ _ _
 have r1:=h.below hB
 have M1:=iB I ws k false 197 #[] #[one w.heap.size] _ _ r1 hw JF (wD r1 (tb.moved h (aN.of_below hB)) hbx)
 have HM:=Hd M1
 have H:=Hd h
 have HB:=Hd hB
 have HR:=Hd hrow
 have HX:=Hd hbx
 have LT:=Hd h.lt
 have TB:=Hd (tb.moved h (aN.of_below hB))
 have HN:=Hd hn
 have HF:=Hd hF
 have HW:=Hd hw
 have R1:=Hd r1
 clear h tb hB hbx hrow r1 M1 hn hF hw
 go_enter Tryz.func117,Tryz.ntmps117
 go_upto_region 2 with (go_at_call 196;refine HM.out.mono ?_;rintro e w2 mp;obtain ⟨x,k2,f2,rfl,mv,r2,mw⟩:=iE mp;have QQ:=Hd (And.intro mv (And.intro r2 mw));clear mp mv r2 mw)
 obtain ⟨mv,r2,mw⟩:=QQ.out
 have G2:=mv.keepc R1.out (by decide) (by decide) HR.out
 have X2:=Go.cell_of_one (mv.keepc R1.out (by decide) (by decide) HX.out)
 have s2:=qW r2
 have s3 : w2.cell? ⟨I.S,3,none⟩ = some (.map (some I.M)):=by rw [box_cell r2.hS];rfl
 have T2:=TB.out.moved R1.out mv
 obtain ⟨c0,c1,c2,c3,f0,f1,f2',f3⟩:=iA G2
 have hsz : w.heap.size + 2 ≤ w2.heap.size:=by have:=(Array.getElem?_eq_some_iff.1 G2).1;omega
 have MV:=Hd ((aN.of_below HB.out).trans mv)
 have G2h:=Hd G2
 have SZ:=Hd hsz
 have R2:=Hd r2
 rcases mw with ⟨_,hx,hp,rfl,rfl⟩ | ⟨hor,rfl,rfl,rfl⟩
 ·have hl:=hw2 HW.out hx
  rcases T2.key x hl with ⟨hk,i,hi,e,g,fs,cs,iv,L⟩ | ⟨hk,L⟩
  ·obtain ⟨id,rfl,en,cal⟩:=key_readB I ws HW.out n HF.out k w2 r2 T2 HN.out hx hi e iv
   have HC:=Hd cal
   have en' : ∀ (args : Array Value) (w : World),(callFunc id args).run Tryz.prog w = .ok (.enter id args) w:=en
   have N:=xY (.func id) fs cs w2
   clear G2 T2 mv r2 QQ hx hp hk hi e iv cal en
   go_wp2_with fail
   refine HC.out.mono ?_
   rintro e w7 ⟨fx,v,k7,f7,rfl,⟨a,na,ca,b,nb,cb,rfl,ht,hs⟩,mv7,r7,hp7⟩
   have G7:=mv7.keepc R2.out (by decide) (by decide) G2h.out
   clear c0 c1 c2 c3 f0 f1 f2' f3 L N en' X2 s3 s2
   obtain ⟨c0,c1,c2,c3,f0,f1,f2',f3⟩:=iA G7
   have Q7:=Hd (And.intro ht (And.intro hs (And.intro mv7 (And.intro r7 (And.intro hp7 G7)))))
   clear ht hs mv7 r7 hp7 G7
   go_wp2_with fail
   obtain ⟨ht,hs,mv7,r7,hp7,G7⟩:=Q7.out
   obtain ⟨g4,v4,m4,r4⟩:=jJ (fm:=fx) (w1:=w2) H.out r7 (MV.out.trans mv7) (by omega) (by omega) (by omega) G7 ht hs _ rfl
   refine bodyPost_ret (jF rfl _ _ (w.heap.size + 1) _ _ _ _ (0,0) rfl g4) rfl ?_
   exact ⟨_,_,k7,f7,rfl,v4,m4,r4,hp7⟩
  ·have hpn : bN x = true:=by simpa [hk] using hp
   have HP:=Hd (JX n x (ws.drop (k + 1)) hk hpn)
   have HD:=Hd (drop_at hx)
   have HC:=Hd (terms_cB I ws HW.out n (k + 1) w2 r2 (by have:=HN.out;have:=(List.getElem?_eq_some_iff.1 hx).1;omega))
   have N:=DV w2
   clear G2 T2 mv r2 QQ hx hp hk hpn
   go_wp2_with (go_at_call 199;refine HC.out.mono ?_;rintro e w7 ⟨ts,v,k7,f7,rfl,ht,mv7,r7,hp7⟩;obtain ⟨a,na,ca,rfl⟩:=TmsB.slice ht;have G7:=mv7.keepc R2.out (by decide) (by decide) G2h.out;clear c0 c1 c2 c3 f0 f1 f2' f3 L N X2 s3 s2;obtain ⟨c0,c1,c2,c3,f0,f1,f2',f3⟩:=iA G7;have Q7:=Hd (And.intro ht (And.intro mv7 (And.intro r7 (And.intro hp7 G7))));clear ht mv7 r7 hp7 G7)
   obtain ⟨ht,mv7,r7,hp7,G7⟩:=Q7.out
   obtain ⟨g4,v4,m4,r4⟩:=jJ (fm:=.mk 1 x ts []) (b:=none) (m:=0) (d:=0) (w1:=w2) H.out r7 (MV.out.trans mv7) (by omega) (by omega) (by omega) G7 ht (AtB.nil) _ rfl
   refine bodyPost_ret (jF rfl _ _ (w.heap.size + 1) _ _ _ _ (0,0) rfl g4) rfl ?_
   refine ⟨_,_,k7,f7,rfl,v4,m4,r4, ?_⟩
   show PrOk (bJ (n + 1) (ws.drop k)) _ _ _
   rw [HD.out,HP.out];exact yE hp7
 ·have HO:=Hd hor
  clear G2 T2 mv r2 QQ hor
  go_wp2_with fail
  obtain ⟨g4,v4,m4,r4⟩:=jJ (fm:=.mk 0 [] [] []) (a:=none) (b:=none) (n:=0) (c:=0) (m:=0) (d:=0) (w1:=w2) H.out R2.out MV.out (by omega) (by omega) (by omega) G2h.out (AtB.nil) (AtB.nil) _ rfl
  refine bodyPost_ret (jF rfl _ _ (w.heap.size + 1) _ _ _ _ (0,0) rfl g4) rfl ?_
  refine ⟨_,_,_,true,rfl,v4,m4,r4, ?_⟩
  show PrOk (bJ (n + 1) (ws.drop k2)) _ _ _
  rcases HO.out with h | h | ⟨y,hy,hp⟩
  ·cases h
  ·rw [gB h];exact ⟨rfl,rfl⟩
  ·rw [drop_at hy]
   simp only [Bool.or_eq_false_iff] at hp
   rw [JV n y _ hp.1 hp.2]
   exact ⟨rfl,rfl⟩
theorem nK (I : RdIx) (ws : List Bs) (hw : ∀ x ∈ ws,x.length ≤ maxLen) : ∀ n,nB I ws n
 | 0=>fun k f w h tb hn=>by
  cases f with
  | true=>exact sL I ws hw k w h tb
  | false=>have:=hn rfl;omega
 | n + 1=>form_ofB I ws hw n (nK I ws hw n)
open Go Go.RowKit Ly
set_option maxHeartbeats 4000000
theorem IB (n : Nat) : ([] : Bs).length ≤ n:=Nat.zero_le n
theorem pTerms_sz : ∀ n : Nat,
  (∀ (ws : List Bs) (t : Tm) (r : List Bs),(∀ y ∈ ws,y.length ≤ maxLen) → fE n ws = .good t r → t.sz ∧ ∀ y ∈ r,y ∈ ws) ∧
  (∀ (ws : List Bs) (t : List Tm) (r : List Bs),(∀ y ∈ ws,y.length ≤ maxLen) → eM n ws = .good t r → mZ t ∧ ∀ y ∈ r,y ∈ ws) ∧
  (∀ (ws : List Bs) (t : List Tm) (r : List Bs),(∀ y ∈ ws,y.length ≤ maxLen) → eQ n ws = .good t r → mZ t ∧ ∀ y ∈ r,y ∈ ws):=by
 intro n
 induction n with
 | zero =>
  refine ⟨fun ws t r _ h=>?_,fun ws t r _ h=>?_,fun ws t r _ h=>?_⟩
  ·simp [fE] at h
  ·simp [eM] at h
  ·simp [eQ] at h
 | succ n ih =>
  obtain ⟨i1,i2,i3⟩:=ih
  refine ⟨fun ws t r hw h=>?_,fun ws t r hw h=>?_,fun ws t r hw h=>?_⟩
  ·cases ws with
   | nil=>simp [fE] at h
   | cons w ws =>
    simp only [fE] at h
    split at h
    ·simp at h;obtain ⟨rfl,rfl⟩:=h
     exact ⟨by rw [Tm.sz];exact ⟨hw w (by simp),trivial⟩,fun y hy=>by simp [hy]⟩
    ·split at h
     ·split at h
      ·cases h
      ·rename_i l r' e
       obtain ⟨a,b⟩:=i2 ws l r' (fun y hy=>hw y (by simp [hy])) e
       simp at h;obtain ⟨rfl,rfl⟩:=h
       exact ⟨by rw [Tm.sz];exact ⟨hw w (by simp),a⟩,fun y hy=>by simp [b y hy]⟩
     ·cases h
  ·cases ws with
   | nil=>simp [eM] at h;obtain ⟨rfl,rfl⟩:=h;exact ⟨trivial,fun y hy=>hy⟩
   | cons w ws =>
    simp only [eM] at h
    split at h
    ·obtain ⟨a,b⟩:=i3 ws t r (fun y hy=>hw y (by simp [hy])) h
     exact ⟨a,fun y hy=>by simp [b y hy]⟩
    ·simp at h;obtain ⟨rfl,rfl⟩:=h;exact ⟨trivial,fun y hy=>hy⟩
  ·simp only [eQ] at h
   split at h
   ·cases h
   ·cases h
   ·rename_i t' x r' e
    obtain ⟨a,b⟩:=i1 ws t' _ hw e
    split at h
    ·split at h
     ·cases h
     ·rename_i ts s e2
      obtain ⟨c,d⟩:=i3 r' ts s (fun y hy=>hw y (b y (by simp [hy]))) e2
      simp at h;obtain ⟨rfl,rfl⟩:=h
      exact ⟨⟨a,c⟩,fun y hy=>b y (by simp [d y hy])⟩
    ·split at h
     ·simp at h;obtain ⟨rfl,rfl⟩:=h
      exact ⟨⟨a,trivial⟩,fun y hy=>b y (by simp [hy])⟩
     ·cases h
theorem oneOp_range (w : Bs) : 0 ≤ iF w ∧ iF w < 256:=by
 unfold iF
 repeat' split
 all_goals omega
theorem twoOp_range (w : Bs) : 0 ≤ iO w ∧ iO w < 256:=by
 unfold iO
 repeat' split
 all_goals omega
theorem pJ : ∀ (n : Nat) (ws : List Bs) (t : Fm) (r : List Bs),(∀ y ∈ ws,y.length ≤ maxLen) → bJ n ws = .good t r → t.sz ∧ ∀ y ∈ r,y ∈ ws
 | 0,ws,t,r,hw,h=>by simp [bJ] at h
 | n + 1,[],t,r,hw,h=>by simp [bJ] at h
 | n + 1,w :: ws,t,r,hw,h=>by
  simp only [bJ] at h
  split at h
  ·simp at h;obtain ⟨rfl,rfl⟩:=h
   exact ⟨by rw [Fm.sz];exact ⟨by omega,IB _,trivial,trivial⟩,fun y hy=>by simp [hy]⟩
  split at h
  ·split at h
   ·cases h
   ·rename_i f r' e
    obtain ⟨a,b⟩:=pJ n ws f r' (fun y hy=>hw y (by simp [hy])) e
    simp at h;obtain ⟨rfl,rfl⟩:=h
    exact ⟨by rw [Fm.sz];exact ⟨oneOp_range w,IB _,trivial,a,trivial⟩,fun y hy=>by simp [b y hy]⟩
  split at h
  ·split at h
   ·cases h
   ·cases h
   ·rename_i f x r' e
    obtain ⟨a,b⟩:=pJ n ws f _ (fun y hy=>hw y (by simp [hy])) e
    split at h
    ·split at h
     ·cases h
     ·rename_i g s e2
      obtain ⟨c,d⟩:=pJ n r' g s (fun y hy=>hw y (by simp [b y (by simp [hy])])) e2
      simp at h;obtain ⟨rfl,rfl⟩:=h
      exact ⟨by rw [Fm.sz];exact ⟨twoOp_range w,IB _,trivial,a,c,trivial⟩,fun y hy=>by simp [b y (by simp [d y hy])]⟩
    ·cases h
  split at h
  ·split at h
   ·cases h
   ·rename_i q ws'
    split at h
    ·split at h
     ·cases h
     ·rename_i v r'
      split at h
      ·split at h
       ·cases h
       ·rename_i f s e
        obtain ⟨a,b⟩:=pJ n r' f s (fun y hy=>hw y (by simp [hy])) e
        simp at h;obtain ⟨rfl,rfl⟩:=h
        refine ⟨?_,fun y hy=>by simp [b y hy]⟩
        rw [Fm.sz]
        refine ⟨?_,hw v (by simp),trivial,a,trivial⟩
        split <;> omega
      ·cases h
    ·cases h
  split at h
  ·split at h
   ·cases h
   ·rename_i l r' e
    obtain ⟨a,b⟩:=(pTerms_sz n).2.1 ws l r' (fun y hy=>hw y (by simp [hy])) e
    simp at h;obtain ⟨rfl,rfl⟩:=h
    exact ⟨by rw [Fm.sz];exact ⟨by omega,hw w (by simp),a,trivial⟩,fun y hy=>by simp [b y hy]⟩
  ·cases h
theorem zL (f : Fm) (b : Bool) (hb : f.right = b) (hf : f.sz) (x : Value) (w : World) (hr : dV w) (hrn : jG w) (hx : bV w f x) : Calls Tryz.prog 85 #[x] w (Rt (.bool b) w):=by
 cases b with
 | true=>exact gU f x w hr hx hb
 | false=>exact EG f hf (by rw [hb];simp) x w hr hrn hx
theorem Read_long (s : Bs) (hs : 16384 < s.length) (hm : s.length ≤ maxLen) (w : World) : Calls Tryz.prog 43 #[str s] w (Rt (.tuple #[.agg #[.int .u8 0,str [],.slice none 0 0,.slice none 0 0],.int .i64 0,.int .i64 3]) w):=by
 have hl : (16384 : Int) < s.length:=by omega
 have hl2 : (s.length : Int) ≤ 9223372036854775807:=by unfold maxLen at hm;omega
 have hB : Below w.heap.size w (w.alloc (.cells #[.int .u8 0,str [],.slice none 0 0,.slice none 0 0] 25)):=bnew
 have hrow : (w.alloc (.cells #[.int .u8 0,str [],.slice none 0 0,.slice none 0 0] 25)).heap[w.heap.size]? = some (.cells #[.int .u8 0,str [],.slice none 0 0,.slice none 0 0] 25 (0,0)):=heap_alloc_new w _
 clear hs hm
 go_enter Tryz.func43,Tryz.ntmps43
 go_wp2_with fail
 exact bodyPost_ret (LU _ _ w.heap.size _ _ _ _ _ _ (0,0) rfl rfl rfl hrow) rfl ⟨rfl,hB⟩
open Go Go.RowKit Ly
set_option maxHeartbeats 1600000
def fm0 : Fm:=.mk 0 [] [] []
def rGot (s : Bs) : Fm × Int × Int :=
 if 16384 < s.length then (fm0,0,3) else
 match fV s with
 | .bad r=>(fm0,(((bC s).length - r.length : Nat) : Int),410)
 | .good f []=>if f.right = true then (f,0,0) else (fm0,0,2)
 | .good _ (x :: r)=>(fm0,(((bC s).length - (x :: r).length : Nat) : Int),410)
open Go Go.RowKit Ly
set_option maxHeartbeats 8000000
theorem sO {w3 w4 w5 : World} {g : Nat} (ba : Below w4.heap.size w4 w5) (hz : g < w3.heap.size) : bY (hide (lo w3) w4) (hide (fun k=>decide (k < g + 1)) w5):=aS fun k h1 h2=>by
 simp only [lo,decide_eq_false_iff_not,Nat.not_lt] at h2
 exact ⟨by simp;omega,ba.block k h1⟩
theorem xG {w5 w7 : World} {p : Nat → Bool} (ba : Below w5.heap.size w5 w7) : bY (hide p w5) (hide p w7):=aS fun k h1 h2=>⟨h2,ba.block k h1⟩
structure At8B (s : Bs) (w : World) (I : RdIx) (x : Fm) (k : Nat) (f : Bool) (a : Option Addr) (na ca : Nat) (b : Option Addr) (nb cb : Nat) (h : Nat) (wx : World) : Prop where
 rd : Rd wx I (bC s) k f
 bw : Below w.heap.size w wx
 g : wx.heap[w.heap.size]? = some (.cells #[.int .u8 0,str [],.slice none 0 0,.slice none 0 0] 25 (0,0))
 cell : wx.heap[h]? = some (.cells #[.int .u8 x.op,str x.name,.slice a na ca,.slice b nb cb] 25 (0,0))
 ok : PrOk (fV s) x f ((bC s).drop k)
 ht : TmsB (hide (fun k=>decide (k < w.heap.size + 1)) wx) x.args (.slice a na ca)
 hs : FmsB (hide (fun k=>decide (k < w.heap.size + 1)) wx) x.sub (.slice b nb cb)
 rows : dV wx
theorem At8B.bad {s : Bs} {w wx : World} {I : RdIx} {x : Fm} {k : Nat} {f : Bool} {a : Option Addr} {na ca : Nat} {b : Option Addr} {nb cb : Nat} {h : Nat} (A : At8B s w I x k f a na ca b nb cb h wx) (hm : f = true ∨ decide (k < (bC s).length) = true) (w' : World) (B : Below w.heap.size w w') : pU s w (.returned (.tuple #[.agg #[.int .u8 0,str [],.slice none 0 0,.slice none 0 0],.int .i64 k,.int .i64 410])) w':=by
 refine ⟨B,.inr ⟨(bC s).drop k, ?_, ?_⟩⟩
 ·cases f with
  | true=>exact .inl (yG A.ok)
  | false =>
   refine .inr ⟨x,fN A.ok, ?_⟩
   rcases hm with h | h
   ·cases h
   ·intro e
    have h1 : k < (bC s).length:=by simpa using h
    have:=congrArg List.length e
    simp at this;omega
 ·have h1:=A.rd.at_
  have e : (bC s).length - ((bC s).drop k).length = k:=by simp;omega
  rw [e]
def jV (s : Bs) (w : World) (e : Ending) (w' : World) : Prop :=
 Below w.heap.size w w' ∧
 ((∃ f v,fV s = .good f [] ∧ f.right = true ∧ e = .returned (.tuple #[v,.int .i64 0,.int .i64 0]) ∧ FmB (hide (lo w) w') f v) ∨
  (∃ f,fV s = .good f [] ∧ f.right = false ∧ e = .returned (.tuple #[.agg #[.int .u8 0,str [],.slice none 0 0,.slice none 0 0],.int .i64 0,.int .i64 2])) ∨
  (∃ r : List Bs,(fV s = .bad r ∨ ∃ f,fV s = .good f r ∧ r ≠ []) ∧ e = .returned (.tuple #[.agg #[.int .u8 0,str [],.slice none 0 0,.slice none 0 0],.int .i64 ((bC s).length - r.length : Nat),.int .i64 410])))
theorem dD {s : Bs} {w w7 : World} {a b c d y z : Value} {tmps : Array Value} (B : Below w.heap.size w w7) (hg : w7.heap[w.heap.size]? = some (.cells #[.int .u8 0,str [],.slice none 0 0,.slice none 0 0] 25 (0,0)))
  (h2 : tmps.getD 2 undef = one w.heap.size) (h3 : tmps.getD 3 undef = y) (h4 : tmps.getD 4 undef = z)
  (post : ∀ w',Below w.heap.size w w' → bY (hide (fun k=>decide (k < w.heap.size + 1)) w7) (hide (lo w) w') → jV s w (.returned (.tuple #[.agg #[a,b,c,d],y,z])) w') :
  bodyPost Tryz.prog Tryz.f43 (jV s w) .ret ⟨tmps,[]⟩ ((((w7.setCell ⟨w.heap.size,0,none⟩ a).setCell ⟨w.heap.size,1,none⟩ b).setCell ⟨w.heap.size,2,none⟩ c).setCell ⟨w.heap.size,3,none⟩ d):=by
 have g1:=aC (o:=0) (u:=a) hg
 have g2:=aC (o:=1) (u:=b) g1
 have g3:=aC (o:=2) (u:=c) g2
 have g4:=aC (o:=3) (u:=d) g3
 refine bodyPost_ret (LU tmps _ w.heap.size a b c d y z (0,0) h2 h3 h4 g4) rfl ?_
 refine post _ ((((B.setCell (by simp) _).setCell (by simp) _).setCell (by simp) _).setCell (by simp) _) (aS fun k h1 h2=>?_)
 simp only [decide_eq_false_iff_not,Nat.not_lt,lo] at h2 ⊢
 have hne : k ≠ w.heap.size:=by omega
 exact ⟨by omega,by rw [Below.heap_setCell _ _ _ _ hne,Below.heap_setCell _ _ _ _ hne,Below.heap_setCell _ _ _ _ hne,Below.heap_setCell _ _ _ _ hne]⟩
theorem At8B.bad2 {s : Bs} {w wx : World} {I : RdIx} {x : Fm} {k : Nat} {f : Bool} {a : Option Addr} {na ca : Nat} {b : Option Addr} {nb cb : Nat} {h : Nat} (A : At8B s w I x k f a na ca b nb cb h wx) (hm : f = true ∨ decide (k < (bC s).length) = true) (w' : World) (B : Below w.heap.size w w') :
  jV s w (.returned (.tuple #[.agg #[.int .u8 0,str [],.slice none 0 0,.slice none 0 0],.int .i64 k,.int .i64 410])) w':=by
 obtain ⟨b,h | h⟩:=A.bad hm w' B
 ·obtain ⟨f,v,h1,h2,h3⟩:=h
  simp at h2
 ·exact ⟨b,.inr (.inr h)⟩
theorem At8B.good2 {s : Bs} {w wx : World} {I : RdIx} {x : Fm} {k : Nat} {a : Option Addr} {na ca : Nat} {b : Option Addr} {nb cb : Nat} {h : Nat} (A : At8B s w I x k false a na ca b nb cb h wx) (hm : decide (k < (bC s).length) = false) (hR : x.right = true) (w' : World) (B : Below w.heap.size w w') (K : bY (hide (fun k=>decide (k < w.heap.size + 1)) wx) (hide (lo w) w')) :
  jV s w (.returned (.tuple #[.agg #[.int .u8 x.op,str x.name,.slice a na ca,.slice b nb cb],.int .i64 0,.int .i64 0])) w':=by
 have e : fV s = .good x []:=by rw [fN A.ok,List.drop_of_length_le (by simpa using hm)]
 exact ⟨B,.inl ⟨x,_,e,hR,rfl,⟨_,_,_,_,_,_,rfl,A.ht.keep K,A.hs.keep K⟩⟩⟩
theorem At8B.no2 {s : Bs} {w wx : World} {I : RdIx} {x : Fm} {k : Nat} {a : Option Addr} {na ca : Nat} {b : Option Addr} {nb cb : Nat} {h : Nat} (A : At8B s w I x k false a na ca b nb cb h wx) (hm : decide (k < (bC s).length) = false) (hR : x.right = false) (w' : World) (B : Below w.heap.size w w') :
  jV s w (.returned (.tuple #[.agg #[.int .u8 0,str [],.slice none 0 0,.slice none 0 0],.int .i64 0,.int .i64 2])) w':=by
 have e : fV s = .good x []:=by rw [fN A.ok,List.drop_of_length_le (by simpa using hm)]
 exact ⟨B,.inr (.inl ⟨x,e,hR,rfl⟩)⟩
theorem At8B.sz {s : Bs} {w wx : World} {I : RdIx} {x : Fm} {k : Nat} {a : Option Addr} {na ca : Nat} {b : Option Addr} {nb cb : Nat} {h : Nat} (A : At8B s w I x k false a na ca b nb cb h wx) (hw : ∀ y ∈ bC s,y.length ≤ maxLen) : x.sz:=(pJ _ _ _ _ hw (fN A.ok)).1
theorem Read_shortB (s : Bs) (hs : s.length ≤ 16384) (w : World) (hm : kL w) (rows : dV w) (rowsn : jG w) : Calls Tryz.prog 43 #[str s] w (jV s w):=by
 have hB : Below w.heap.size w (w.alloc (.cells #[.int .u8 0,str [],.slice none 0 0,.slice none 0 0] 25)):=bnew
 have hrow : (w.alloc (.cells #[.int .u8 0,str [],.slice none 0 0,.slice none 0 0] 25)).heap[w.heap.size]? = some (.cells #[.int .u8 0,str [],.slice none 0 0,.slice none 0 0] 25 (0,0)):=heap_alloc_new w _
 have HS:=Hd hs
 have RN:=Hd rowsn
 have HM:=Hd (hm.keep (aA hB))
 have RW:=Hd (rows.keep (aA hB))
 have RO:=Hd rows
 have HB:=Hd hB
 have HG:=Hd hrow
 have hl : (s.length : Int) ≤ 16384:=by omega
 have hl2 : ¬ (16384 : Int) < s.length:=by omega
 have WL:=Hd (vZ s (by omega))
 clear hs rowsn hm rows hB hrow
 have cut : ∃ b : Bool,s.isEmpty = b:=⟨_,rfl⟩
 obtain ⟨bE,hE⟩:=cut
 have HE:=Hd hE
 go_enter Tryz.func43,Tryz.ntmps43
 cases bE
 ·have hne : ¬ s = []:=by rw [← List.isEmpty_iff,hE];simp
  have e2 : (s == []) = false:=by simpa using hne
  have HN:=Hd hne
  go_upto_region 6 with (go_at_call 31;refine (KB s (by have:=HS.out;omega) _ HM.out).mono ?_;rintro e w2 ⟨⟨nl,cl,rfl,hsa,hlt⟩,hb2⟩;have B2:=Hd (And.intro hsa (And.intro hlt hb2));clear hsa hlt hb2)
  have A6 : Hid (II s w w2 (.slice (some ⟨w.heap.size + 1,0,none⟩) nl cl)):=by
   obtain ⟨hsa,hlt,hb2⟩:=B2.out
   refine ⟨⟨_,_,_,rfl, ?_, ?_,HB.out.trans (hb2.mono (by simp))⟩,RW.out.keep (aA hb2),(hb2.block w.heap.size (by simp)).trans HG.out⟩
   ·unfold bC;rw [if_neg HN.out];simpa using hsa
   ·intro a h;cases h;simpa using hlt
  clear hE hne e2 HN B2
  obtain ⟨⟨la,ln,lc,ev,hsa,hla,hbw⟩,rows6,row6⟩:=A6.out
  cases ev
  have LA:=Hd (And.intro hsa hla)
  have BW:=Hd hbw
  have R6:=Hd rows6
  have G6:=Hd row6
  clear hsa hla hbw rows6 row6 A6
  go_upto_region 8 with (first
   | (go_at_call 116;refine (mA _ _ _ _ _ LA.out.1 LA.out.2 (by have:=WL.out.1;have:=HS.out;omega)).mono ?_;rintro e w3 ⟨I,rfl,rd,tb,bw,hA,hS⟩;have RD:=Hd rd;have TB:=Hd tb;have B3:=Hd (And.intro bw (And.intro hA hS));clear rd tb bw hA hS)
   | (go_at_call 117;refine (nK I _ WL.out.2 _ 0 false _ RD.out TB.out (fun _=>Nat.le_refl _)).mono ?_;rintro e w4 ⟨x,v,k,f,rfl,⟨a,na,ca,b,nb,cb,rfl,ht,hs⟩,mv,r4,hp⟩;have Q4:=Hd (And.intro ht (And.intro hs (And.intro mv (And.intro r4 hp))));clear ht hs mv r4 hp))
  have A8 : Hid (At8B s w I x k f a na ca b nb cb w4.heap.size (w4.alloc (.cells #[.int .u8 x.op,str x.name,.slice a na ca,.slice b nb cb] 25))):=by
   obtain ⟨ht,hs,mv,r4,hp⟩:=Q4.out
   obtain ⟨bw,hA,hS⟩:=B3.out
   have ba : Below w4.heap.size w4 (w4.alloc (.cells #[.int .u8 x.op,str x.name,.slice a na ca,.slice b nb cb] 25)):=bnew
   have b5 : Below w.heap.size w (w4.alloc (.cells #[.int .u8 x.op,str x.name,.slice a na ca,.slice b nb cb] 25)):=aB (lW (aB BW.out bw) mv (Nat.le_trans BW.out.size hA) (Nat.le_trans BW.out.size hS)) ba
   have gz:=(Array.getElem?_eq_some_iff.1 G6.out).1
   refine ⟨r4.below ba,b5, ?_,heap_alloc_new _ _,hp, ?_, ?_,RO.out.keep (aA b5)⟩
   ·rw [ba.block _ (by have:=mv.size;have:=bw.size;omega),mv.block _ (by have:=bw.size;omega) (by omega) (by omega),bw.block _ gz]
    exact G6.out
   ·exact ht.keep (sO ba (by have:=bw.size;omega))
   ·exact hs.keep (sO ba (by have:=bw.size;omega))
  show Code.wp _ _ _ _ (w4.alloc (.cells #[.int .u8 x.op,str x.name,.slice a na ca,.slice b nb cb] 25))
  generalize w4.heap.size = h5 at A8 ⊢
  generalize w4.alloc (.cells #[.int .u8 x.op,str x.name,.slice a na ca,.slice b nb cb] 25) = W5 at A8 ⊢
  have q1 : W5.cell? ⟨I.S,1,none⟩ = some (.func (.func 191) #[] #[one I.A,one I.L]):=(box_cell A8.out.rd.hS 1).trans rfl
  clear Q4 B3 TB RD LA BW R6 G6 RW HM
  obtain ⟨more,hmore⟩ : ∃ m : Bool,decide (k < (bC s).length) = m:=⟨_,rfl⟩
  have HMO:=Hd hmore
  clear hmore
  obtain ⟨br,hbr⟩ : ∃ b,x.right = b:=⟨_,rfl⟩
  have RB:=Hd hbr
  clear hbr
  cases f <;> cases more <;> cases br
  all_goals go_wp2_with (first
   | (go_at_call 191;refine (DO I (bC s) k _ W5 A8.out.rd).mono ?_;rintro e w6 ⟨he,hb6⟩;rw [HMO.out] at he;subst he;have B6:=Hd hb6;have s2:=qW (A8.out.rd.below hb6);obtain ⟨c0,c1,c2,c3,f0,f1,f2,f3⟩:=iA ((hb6.block _ (Array.getElem?_eq_some_iff.1 A8.out.g).1).trans A8.out.g);obtain ⟨x0,x1,x2,x3,l0,l1,l2,l3⟩:=row25' ((hb6.block _ (Array.getElem?_eq_some_iff.1 A8.out.cell).1).trans A8.out.cell);clear hb6)
   | (go_at_call 85;refine (zL x _ RB.out (A8.out.sz WL.out.2) _ _ (A8.out.rows.keep (aA B6.out)) (RN.out.keep (aA (aB A8.out.bw B6.out))) ⟨_,_,_,_,_,_,rfl,A8.out.ht.w.keep ((fG _ _).trans (aA B6.out)),A8.out.hs.w.keep ((fG _ _).trans (aA B6.out))⟩).mono ?_;rintro e w7 ⟨rfl,hb7⟩;clear c0 c1 c2 c3 f0 f1 f2 f3 x0 x1 x2 x3 l0 l1 l2 l3;have B7:=Hd (aB B6.out hb7);obtain ⟨c0,c1,c2,c3,f0,f1,f2,f3⟩:=iA ((B7.out.block _ (Array.getElem?_eq_some_iff.1 A8.out.g).1).trans A8.out.g);obtain ⟨x0,x1,x2,x3,l0,l1,l2,l3⟩:=row25' ((B7.out.block _ (Array.getElem?_eq_some_iff.1 A8.out.cell).1).trans A8.out.cell);clear hb7))
  ·exact dD (aB A8.out.bw B7.out) ((B7.out.block _ (Array.getElem?_eq_some_iff.1 A8.out.g).1).trans A8.out.g) rfl rfl rfl fun w' b K=>A8.out.no2 HMO.out RB.out w' b
  ·exact dD (aB A8.out.bw B7.out) ((B7.out.block _ (Array.getElem?_eq_some_iff.1 A8.out.g).1).trans A8.out.g) rfl rfl rfl fun w' b K=>A8.out.good2 HMO.out RB.out w' b ((xG B7.out).trans K)
  ·exact dD (aB A8.out.bw B6.out) ((B6.out.block _ (Array.getElem?_eq_some_iff.1 A8.out.g).1).trans A8.out.g) rfl rfl rfl fun w' b K=>A8.out.bad2 (.inr HMO.out) w' b
  ·exact dD (aB A8.out.bw B6.out) ((B6.out.block _ (Array.getElem?_eq_some_iff.1 A8.out.g).1).trans A8.out.g) rfl rfl rfl fun w' b K=>A8.out.bad2 (.inr HMO.out) w' b
  ·exact dD (aB A8.out.bw B6.out) ((B6.out.block _ (Array.getElem?_eq_some_iff.1 A8.out.g).1).trans A8.out.g) rfl rfl rfl fun w' b K=>A8.out.bad2 (.inl rfl) w' b
  ·exact dD (aB A8.out.bw B6.out) ((B6.out.block _ (Array.getElem?_eq_some_iff.1 A8.out.g).1).trans A8.out.g) rfl rfl rfl fun w' b K=>A8.out.bad2 (.inl rfl) w' b
  ·exact dD (aB A8.out.bw B6.out) ((B6.out.block _ (Array.getElem?_eq_some_iff.1 A8.out.g).1).trans A8.out.g) rfl rfl rfl fun w' b K=>A8.out.bad2 (.inl rfl) w' b
  ·exact dD (aB A8.out.bw B6.out) ((B6.out.block _ (Array.getElem?_eq_some_iff.1 A8.out.g).1).trans A8.out.g) rfl rfl rfl fun w' b K=>A8.out.bad2 (.inl rfl) w' b
 ·have hne : s = []:=List.isEmpty_iff.1 hE
  subst hne
  go_upto_region 6 with fail
  have A6 : Hid (II [] w (w.alloc (.cells #[.int .u8 0,str [],.slice none 0 0,.slice none 0 0] 25)) (.slice none 0 0)):=by
   refine ⟨⟨_,_,_,rfl, ?_, ?_,HB.out⟩,RW.out,HG.out⟩
   ·unfold bC;rw [if_pos rfl];exact At.sl_nil (Nat.zero_le _)
   ·rintro a h;cases h
  obtain ⟨⟨la,ln,lc,ev,hsa,hla,hbw⟩,rows6,row6⟩:=A6.out
  cases ev
  have LA:=Hd (And.intro hsa hla)
  have BW:=Hd hbw
  have R6:=Hd rows6
  have G6:=Hd row6
  clear hsa hla hbw rows6 row6 A6
  go_upto_region 8 with (first
   | (go_at_call 116;refine (mA _ _ _ _ _ LA.out.1 LA.out.2 (by have:=WL.out.1;have:=HS.out;omega)).mono ?_;rintro e w3 ⟨I,rfl,rd,tb,bw,hA,hS⟩;have RD:=Hd rd;have TB:=Hd tb;have B3:=Hd (And.intro bw (And.intro hA hS));clear rd tb bw hA hS)
   | (go_at_call 117;refine (nK I _ WL.out.2 _ 0 false _ RD.out TB.out (fun _=>Nat.le_refl _)).mono ?_;rintro e w4 ⟨x,v,k,f,rfl,⟨a,na,ca,b,nb,cb,rfl,ht,hs⟩,mv,r4,hp⟩;have Q4:=Hd (And.intro ht (And.intro hs (And.intro mv (And.intro r4 hp))));clear ht hs mv r4 hp))
  have A8 : Hid (At8B [] w I x k f a na ca b nb cb w4.heap.size (w4.alloc (.cells #[.int .u8 x.op,str x.name,.slice a na ca,.slice b nb cb] 25))):=by
   obtain ⟨ht,hs,mv,r4,hp⟩:=Q4.out
   obtain ⟨bw,hA,hS⟩:=B3.out
   have ba : Below w4.heap.size w4 (w4.alloc (.cells #[.int .u8 x.op,str x.name,.slice a na ca,.slice b nb cb] 25)):=bnew
   have b5 : Below w.heap.size w (w4.alloc (.cells #[.int .u8 x.op,str x.name,.slice a na ca,.slice b nb cb] 25)):=aB (lW (aB BW.out bw) mv (Nat.le_trans BW.out.size hA) (Nat.le_trans BW.out.size hS)) ba
   have gz:=(Array.getElem?_eq_some_iff.1 G6.out).1
   refine ⟨r4.below ba,b5, ?_,heap_alloc_new _ _,hp, ?_, ?_,RO.out.keep (aA b5)⟩
   ·rw [ba.block _ (by have:=mv.size;have:=bw.size;omega),mv.block _ (by have:=bw.size;omega) (by omega) (by omega),bw.block _ gz]
    exact G6.out
   ·exact ht.keep (sO ba (by have:=bw.size;omega))
   ·exact hs.keep (sO ba (by have:=bw.size;omega))
  show Code.wp _ _ _ _ (w4.alloc (.cells #[.int .u8 x.op,str x.name,.slice a na ca,.slice b nb cb] 25))
  generalize w4.heap.size = h5 at A8 ⊢
  generalize w4.alloc (.cells #[.int .u8 x.op,str x.name,.slice a na ca,.slice b nb cb] 25) = W5 at A8 ⊢
  have q1 : W5.cell? ⟨I.S,1,none⟩ = some (.func (.func 191) #[] #[one I.A,one I.L]):=(box_cell A8.out.rd.hS 1).trans rfl
  clear Q4 B3 TB RD LA BW R6 G6 RW HM
  obtain ⟨more,hmore⟩ : ∃ m : Bool,decide (k < (bC []).length) = m:=⟨_,rfl⟩
  have HMO:=Hd hmore
  clear hmore
  obtain ⟨br,hbr⟩ : ∃ b,x.right = b:=⟨_,rfl⟩
  have RB:=Hd hbr
  clear hbr
  cases f <;> cases more <;> cases br
  all_goals go_wp2_with (first
   | (go_at_call 191;refine (DO I (bC []) k _ W5 A8.out.rd).mono ?_;rintro e w6 ⟨he,hb6⟩;rw [HMO.out] at he;subst he;have B6:=Hd hb6;have s2:=qW (A8.out.rd.below hb6);obtain ⟨c0,c1,c2,c3,f0,f1,f2,f3⟩:=iA ((hb6.block _ (Array.getElem?_eq_some_iff.1 A8.out.g).1).trans A8.out.g);obtain ⟨x0,x1,x2,x3,l0,l1,l2,l3⟩:=row25' ((hb6.block _ (Array.getElem?_eq_some_iff.1 A8.out.cell).1).trans A8.out.cell);clear hb6)
   | (go_at_call 85;refine (zL x _ RB.out (A8.out.sz WL.out.2) _ _ (A8.out.rows.keep (aA B6.out)) (RN.out.keep (aA (aB A8.out.bw B6.out))) ⟨_,_,_,_,_,_,rfl,A8.out.ht.w.keep ((fG _ _).trans (aA B6.out)),A8.out.hs.w.keep ((fG _ _).trans (aA B6.out))⟩).mono ?_;rintro e w7 ⟨rfl,hb7⟩;clear c0 c1 c2 c3 f0 f1 f2 f3 x0 x1 x2 x3 l0 l1 l2 l3;have B7:=Hd (aB B6.out hb7);obtain ⟨c0,c1,c2,c3,f0,f1,f2,f3⟩:=iA ((B7.out.block _ (Array.getElem?_eq_some_iff.1 A8.out.g).1).trans A8.out.g);obtain ⟨x0,x1,x2,x3,l0,l1,l2,l3⟩:=row25' ((B7.out.block _ (Array.getElem?_eq_some_iff.1 A8.out.cell).1).trans A8.out.cell);clear hb7))
  ·exact dD (aB A8.out.bw B7.out) ((B7.out.block _ (Array.getElem?_eq_some_iff.1 A8.out.g).1).trans A8.out.g) rfl rfl rfl fun w' b K=>A8.out.no2 HMO.out RB.out w' b
  ·exact dD (aB A8.out.bw B7.out) ((B7.out.block _ (Array.getElem?_eq_some_iff.1 A8.out.g).1).trans A8.out.g) rfl rfl rfl fun w' b K=>A8.out.good2 HMO.out RB.out w' b ((xG B7.out).trans K)
  ·exact dD (aB A8.out.bw B6.out) ((B6.out.block _ (Array.getElem?_eq_some_iff.1 A8.out.g).1).trans A8.out.g) rfl rfl rfl fun w' b K=>A8.out.bad2 (.inr HMO.out) w' b
  ·exact dD (aB A8.out.bw B6.out) ((B6.out.block _ (Array.getElem?_eq_some_iff.1 A8.out.g).1).trans A8.out.g) rfl rfl rfl fun w' b K=>A8.out.bad2 (.inr HMO.out) w' b
  ·exact dD (aB A8.out.bw B6.out) ((B6.out.block _ (Array.getElem?_eq_some_iff.1 A8.out.g).1).trans A8.out.g) rfl rfl rfl fun w' b K=>A8.out.bad2 (.inl rfl) w' b
  ·exact dD (aB A8.out.bw B6.out) ((B6.out.block _ (Array.getElem?_eq_some_iff.1 A8.out.g).1).trans A8.out.g) rfl rfl rfl fun w' b K=>A8.out.bad2 (.inl rfl) w' b
  ·exact dD (aB A8.out.bw B6.out) ((B6.out.block _ (Array.getElem?_eq_some_iff.1 A8.out.g).1).trans A8.out.g) rfl rfl rfl fun w' b K=>A8.out.bad2 (.inl rfl) w' b
  ·exact dD (aB A8.out.bw B6.out) ((B6.out.block _ (Array.getElem?_eq_some_iff.1 A8.out.g).1).trans A8.out.g) rfl rfl rfl fun w' b K=>A8.out.bad2 (.inl rfl) w' b
def kO (s : Bs) (w : World) (e : Ending) (w' : World) : Prop :=
 ∃ ga gn gc ha hn hc,e = .returned (.tuple #[.agg #[.int .u8 (rGot s).1.op,str (rGot s).1.name,.slice ga gn gc,.slice ha hn hc],.int .i64 (rGot s).2.1,.int .i64 (rGot s).2.2]) ∧
  TmsB (hide (lo w) w') (rGot s).1.args (.slice ga gn gc) ∧ FmsB (hide (lo w) w') (rGot s).1.sub (.slice ha hn hc) ∧ Below w.heap.size w w'
theorem kO.zero {s : Bs} {w w' : World} {e : Ending} {i c : Int} (h : rGot s = (fm0,i,c)) (he : e = .returned (.tuple #[.agg #[.int .u8 0,str [],.slice none 0 0,.slice none 0 0],.int .i64 i,.int .i64 c])) (b : Below w.heap.size w w') : kO s w e w':=by
 unfold kO
 rw [h]
 exact ⟨none,0,0,none,0,0,he,AtB.nil,AtB.nil,b⟩
theorem jV.got {s : Bs} {w w' : World} {e : Ending} (hs : s.length ≤ 16384) (h : jV s w e w') : kO s w e w':=by
 have hl : ¬ 16384 < s.length:=by omega
 obtain ⟨b,⟨f,v,h1,h2,rfl,⟨ga,gn,gc,ha,hn,hc,rfl,h4,h5⟩⟩ | ⟨f,h1,h2,rfl⟩ | ⟨r,h1,rfl⟩⟩:=h
 ·have e : rGot s = (f,0,0):=by simp [rGot,hl,h1,h2]
  unfold kO
  rw [e]
  exact ⟨ga,gn,gc,ha,hn,hc,rfl,h4,h5,b⟩
 ·exact kO.zero (by simp [rGot,hl,h1,h2]) rfl b
 ·refine kO.zero ?_ rfl b
  rcases h1 with h1 | ⟨f,h1,hr⟩
  ·simp [rGot,hl,h1]
  ·cases r with
   | nil=>exact absurd rfl hr
   | cons x r=>simp [rGot,hl,h1]
theorem Read_gotB (s : Bs) (hm : s.length ≤ maxLen) (w : World) (hx : kL w) (rows : dV w) (rowsn : jG w) : Calls Tryz.prog 43 #[str s] w (kO s w):=by
 by_cases hs : s.length ≤ 16384
 ·exact (Read_shortB s hs w hx rows rowsn).mono fun e w' h=>h.got hs
 ·exact (Read_long s (by omega) hm w).mono fun e w' h=>kO.zero (by simp [rGot,show 16384 < s.length by omega]) h.1 h.2
end Go.Proofs.YtcandidgaegghaaGreatDoor
