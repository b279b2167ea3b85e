/- describe.Form and describe.Outline at any formula: what is not right has no words. Conditions: the program's table of rows lies as laid; names fit into memory. -/
import Derived.Test.YtcandidgaegghaaGreatDoorCpZ
import Derived.Test.YtcandidgaegghaaGreatDoorJudgeGZ
import Derived.Test.YtcandidgaegghaaGreatDoorModBZ
import Derived.Test.YtcandidgaegghaaGreatDoorWrAZ
import Derived.Test.YtcandidgaegghaaGreatDoorRightZ
import Derived.Test.YtcandidgaegghaaGreatDoorPlCZ
import Derived.Deep.DeepCutAuto
set_option maxRecDepth 10000
set_option linter.unusedSimpArgs false
set_option linter.unusedVariables false
namespace Go.Proofs.YtcandidgaegghaaGreatDoor
open Go Go.RowKit Ly
theorem rows_no {W : World} {L : List (String × DataW Unit)} (h : laidMet Tryz.prog L W) (hm : ("lyceum/syntax.rows",Rows.laid_lyceum_syntax_rows) ∈ L) : jG W:=by
 obtain ⟨g,t,cs,fuel,p,hg,ht,hv,hd⟩:=Lib.laidMet.reads h hm
 obtain rfl:=Option.some.inj (MX.symm.trans hg)
 obtain rfl:=Option.some.inj (KY.symm.trans ht)
 have one : ∀ (i : Nat) (a b : Bool) (x y z : Int),i < 17 → (match (Rows.laid_lyceum_syntax_rows : DataW Unit) with | .agg ds=>ds[i]? | _=>none) = some (.agg [.lit (.bool a),.lit (.bool b),.lit (.int .u8 x),.lit (.int .i64 y),.lit (.int .i64 z)]) →
   W.cell? ⟨0,i * 5,none⟩ = some (.bool a) ∧ W.cell? ⟨0,i * 5 + 1,none⟩ = some (.bool b) ∧ W.cell? ⟨0,i * 5 + 2,none⟩ = some (.int .u8 x) ∧ W.cell? ⟨0,i * 5 + 3,none⟩ = some (.int .i64 y) ∧ W.cell? ⟨0,i * 5 + 4,none⟩ = some (.int .i64 z):=by
  intro i a b x y z hi e
  obtain ⟨f',d,q,e2,hd'⟩:=Lib.array_elem Tryz.underlying265 hd i hi
  have : d = .agg [.lit (.bool a),.lit (.bool b),.lit (.int .u8 x),.lit (.int .i64 y),.lit (.int .i64 z)]:=Option.some.inj (e2.symm.trans e)
  subst this
  rw [ES] at hd'
  obtain ⟨k0,k1,k2,k3,k4⟩:=BU hd'
  have cell : ∀ (j : Nat) (v : Value),j < 5 → ((cs.toList.drop (i * 5)).take 5)[j]? = some v → W.cell? ⟨0,i * 5 + j,none⟩ = some v:=by
   intro j v hj e
   rw [List.getElem?_take,if_pos hj,List.getElem?_drop] at e
   have:=World.var?_cell hg hv (i * 5 + j)
   rw [this]
   simpa using e
  exact ⟨cell 0 _ (by omega) k0,cell 1 _ (by omega) k1,cell 2 _ (by omega) k2,cell 3 _ (by omega) k3,cell 4 _ (by omega) k4⟩
 intro op ho
 rcases ho with rfl | rfl | rfl
 ·exact ⟨_,_,_,_,one 0 _ _ _ _ _ (by decide) rfl⟩
 ·exact ⟨_,_,_,_,one 15 _ _ _ _ _ (by decide) rfl⟩
 ·exact ⟨_,_,_,_,one 16 _ _ _ _ _ (by decide) rfl⟩
theorem EG (f : Fm) (hf : f.sz) (h : ¬ f.right = true) (x : Value) (w : World) (hr : dV w) (hrn : jG w) (hx : bV w f x) : Calls Tryz.prog 85 #[x] w (Rt (.bool false) w):=by
 obtain ⟨a,k,c,a',m,d,rfl,h1,h2⟩:=hx
 have X : Hid (bV w f (.agg #[.int .u8 f.op,str f.name,.slice a k c,.slice a' m d])):=⟨_,_,_,_,_,_,rfl,h1,h2⟩
 have HR:=Hd hr
 have HRN:=Hd hrn
 have SZ:=Hd hf
 have NO : Hid (¬ GV f 400 1):=fun g=>h (by
  obtain ⟨g1,g2,g3⟩:=g
  simp only [Fm.right,Bool.and_eq_true,decide_eq_true_eq]
  exact ⟨⟨g1,by omega⟩,by omega⟩)
 clear h1 h2 hr hrn hf h
 go_enter Tryz.func85,Tryz.ntmps85
 go_wp2_with (go_at_call 160;refine (JI f w _ (w.heap.size + 1) 400 1 _ HR.out HRN.out X.out (by exact bnew.alloc (by simp) _) (by omega) ⟨by simp [go_sem],by simp [go_sem],by simp [go_sem],by simp [go_sem]⟩ SZ.out NO.out (by omega) (by omega) (by omega) (by omega)).mono ?_;rintro e w1 ⟨rfl,r1,_⟩)
 go_ret
 exact ⟨rfl,r1⟩
end Go.Proofs.YtcandidgaegghaaGreatDoor
namespace Ly
open Go Go.RowKit
mutual
def Pf.sz : Pf → Prop
 | .mk r f _ ps _=>r.length ≤ maxLen ∧ f.sz ∧ qT ps
def qT : List Pf → Prop
 | []=>True
 | p :: ps=>p.sz ∧ qT ps
end
theorem jM : ∀ l : List Pf,qT l ↔ ∀ t ∈ l,t.sz
 | []=>by simp [qT]
 | t :: ts=>by simp [qT,jM ts]
end Ly
namespace Go.Proofs.YtcandidgaegghaaGreatDoor
open Go Go.RowKit Ly
set_option maxHeartbeats 1600000
def CV (p : Pf) (left below : Int) : Prop:=p.ok = true ∧ (p.steps : Int) ≤ left ∧ below + p.depth ≤ 40
def CW (l : List Pf) (left below : Int) : Prop:=iX l = true ∧ (aE l : Int) ≤ left ∧ below + dX l ≤ 40
def PfN (p : Pf) : Prop:=∀ (w0 w : World) (b : Nat) (left below : Int) (x : Value),dV w0 → jG w0 → cU w0 p x → Below w0.heap.size w0 w → w0.heap.size ≤ b → dM w b left → p.sz → ¬ CV p left below →
 0 ≤ left → left ≤ 300 → 0 ≤ below → below ≤ 41 → Calls Tryz.prog 87 #[x,.int .i64 below,.pointer (some ⟨b,0,none⟩)] w (CQ w0 b w)
theorem pf_stepN (r : Bs) (f : Fm) (lb : Int) (ps : List Pf) (ms : List (List Int)) (hh : ∀ p ∈ ps,PfN p) : PfN (.mk r f lb ps ms):=by
 intro w0 w b left below x hrows hrno hx hw hb hj hsz hno hl0 hl hd1 hd2
 have hx0:=hx
 obtain ⟨a,k,c,a',m,d,s,sn,sc,q,qn,qc,rfl,h1,h2,h3,h4⟩:=hx
 simp only [Pf.rule,Pf.form,Pf.label,Pf.sub,Pf.marks] at *
 have hs:=h3.len
 have hsl : sn ≤ 9223372036854775807:=by have:=le63 hs.2.2;omega
 obtain ⟨zr,zf,zp⟩:=hsz
 have hbl : b < w.heap.size:=hj.lt
 have W1 : Hid (∀ o : Obj,Below w0.heap.size w0 ((w.setCell ⟨b,0,none⟩ (.int .i64 (left - 1))).alloc o) ∧ dM ((w.setCell ⟨b,0,none⟩ (.int .i64 (left - 1))).alloc o) b (left - 1) ∧ But b w ((w.setCell ⟨b,0,none⟩ (.int .i64 (left - 1))).alloc o)):=fun o =>
  qA (left - 1) hw hb hj (Below.refl _ _)
 have W1' : Hid (∀ o : Obj,Below w0.heap.size w0 ((w.alloc o).setCell ⟨b,0,none⟩ (.int .i64 (left - 1))) ∧ But b w ((w.alloc o).setCell ⟨b,0,none⟩ (.int .i64 (left - 1)))):=fun o=>by
  have hb1 : Below w.heap.size w (w.alloc o):=bnew
  have k : But b w ((w.alloc o).setCell ⟨b,0,none⟩ (.int .i64 (left - 1))):=(But.of_below hb1).trans (But.set b _ 0 none _)
  exact ⟨k.below hw hb,k⟩
 by_cases t1 : 1 ≤ left
 rotate_left
 ·have b1 : decide (left - 1 < 0) = true:=by simp;omega
  have hj':=hj
  obtain ⟨jc,jf⟩:=hj
  clear hrows hrno hx0 h1 h2 h3 h4 hs hno hh
  go_enter Tryz.func87,Tryz.ntmps87
  go_wp2_with fail
  go_ret
  first
   | exact ⟨rfl,(W1.out _).1,(W1.out _).2.2⟩
   | exact ⟨rfl,(W1'.out _).1,(W1'.out _).2⟩
 have b1 : decide (left - 1 < 0) = false:=by simp;omega
 by_cases t2 : below ≤ 40
 rotate_left
 ·have b2 : decide (40 < below) = true:=by simp;omega
  obtain ⟨jc,jf⟩:=hj
  clear hrows hrno hx0 h1 h2 h3 h4 hs hno hh
  go_enter Tryz.func87,Tryz.ntmps87
  go_wp2_with fail
  go_ret
  first
   | exact ⟨rfl,(W1.out _).1,(W1.out _).2.2⟩
   | exact ⟨rfl,(W1'.out _).1,(W1'.out _).2⟩
 have b2 : decide (40 < below) = false:=by simp;omega
 have HR:=Hd hrows
 have HRN:=Hd hrno
 have HX:=Hd hx0
 have H1:=Hd h1
 have H2:=Hd h2
 have H3:=Hd h3
 have L3:=Hd hs.1
 have H:=Hd hh
 have ZP:=Hd zp
 have hwo : Hid (Below w0.heap.size w0 w ∧ dM w b left):=⟨hw,hj⟩
 obtain ⟨fr,hfr⟩ : ∃ fr,f.right = fr:=⟨_,rfl⟩
 obtain ⟨sh,hsh⟩ : ∃ sh,dF r lb ps.length ms = sh:=⟨_,rfl⟩
 have RG : Hid (∀ W,Below w0.heap.size w0 W → Calls Tryz.prog 85 #[.agg #[.int .u8 f.op,str f.name,.slice a k c,.slice a' m d]] W (Rt (.bool fr) W)):=fun W hW=>by
  have hv : bV W f (.agg #[.int .u8 f.op,str f.name,.slice a k c,.slice a' m d]):=⟨_,_,_,_,_,_,rfl,H1.out.keep (aA hW),H2.out.keep (aA hW)⟩
  cases hfr2 : fr with
  | true=>exact gU f _ W (HR.out.keep (aA hW)) hv (hfr.trans hfr2)
  | false=>exact EG f zf (by rw [hfr,hfr2];simp) _ W (HR.out.keep (aA hW)) (HRN.out.keep (aA hW)) hv
 have SG : Hid (∀ W,Below w0.heap.size w0 W → Calls Tryz.prog 162 #[.agg #[str r,.int .u8 f.op,str f.name,.slice a k c,.slice a' m d,.int .i64 lb,.slice s sn sc,.slice q qn qc]] W (Rt (.bool sh) W)):=fun W hW=>by
  have:=shaped_any (.mk r f lb ps ms) zr _ W (HX.out.keep (aA hW))
  simp only [Pf.rule,Pf.form,Pf.label,Pf.sub,Pf.marks] at this
  rw [hsh] at this
  exact this
 have NO : Hid (fr = true → sh = true → ¬ CW ps (left - 1) below):=fun e1 e2 hg=>by
  subst e1 e2
  apply hno
  refine ⟨by simp only [Pf.ok,hfr,hsh,hg.1,Bool.and_self], ?_, ?_⟩
  ·have:=hg.2.1
   simp only [Pf.steps];omega
  ·have:=hg.2.2
   simp only [Pf.depth];omega
 obtain ⟨jc,jf⟩:=hj
 clear hrows hrno hx0 h1 h2 h3 h4 hs hh hw hno hfr hsh zr zf zp
 cases fr
 ·clear NO SG
  go_enter Tryz.func87,Tryz.ntmps87
  go_wp2_with (go_at_call 85;refine (RG.out _ (W1.out _).1).mono ?_;rintro e w1 ⟨rfl,hb1⟩;have R : Hid (Below w0.heap.size w0 w1 ∧ dM w1 b (left - 1) ∧ But b w w1):=(qA (left - 1) hwo.out.1 hb hwo.out.2 hb1);clear hb1)
  go_ret
  exact ⟨rfl,R.out.1,R.out.2.2⟩
 cases sh
 ·clear NO
  go_enter Tryz.func87,Tryz.ntmps87
  go_wp2_with fail
  refine (RG.out _ (W1.out _).1).mono ?_
  rintro e w1 ⟨rfl,hb1⟩
  obtain ⟨hc1,hf1⟩:=eP hb1
  have B1:=Hd hb1
  have hz1 : w.heap.size < w1.heap.size:=by have:=hb1.size;simp [World.setCell] at this;omega
  have K1 : Hid (Below w0.heap.size w0 w1):=(W1.out _).1.trans (hb1.mono (W1.out _).1.size)
  clear hb1
  go_wp2_with fail
  refine (SG.out _ K1.out).mono ?_
  rintro e w2 ⟨rfl,hb2⟩
  have R : Hid (Below w0.heap.size w0 w2 ∧ dM w2 b (left - 1) ∧ But b w w2):=qA (left - 1) hwo.out.1 hb hwo.out.2 (aB B1.out hb2)
  clear hb2 hc1 hf1
  go_wp2_with fail
  go_ret
  exact ⟨rfl,R.out.1,R.out.2.2⟩
 replace NO:=Hd (NO.out rfl rfl)
 go_enter Tryz.func87,Tryz.ntmps87
 go_wp2_with fail
 refine (RG.out _ (W1.out _).1).mono ?_
 rintro e w1 ⟨rfl,hb1⟩
 obtain ⟨hc1,hf1⟩:=eP hb1
 have B1:=Hd hb1
 have hz1 : w.heap.size < w1.heap.size:=by have:=hb1.size;simp [World.setCell] at this;omega
 have K1 : Hid (Below w0.heap.size w0 w1):=(W1.out _).1.trans (hb1.mono (W1.out _).1.size)
 clear hb1
 go_wp2_with fail
 refine (SG.out _ K1.out).mono ?_
 rintro e w2 ⟨rfl,hb2⟩
 obtain ⟨hc2,hf2⟩:=eP (aB B1.out hb2)
 have R : Hid (Below w0.heap.size w0 w2 ∧ dM w2 b (left - 1) ∧ But b w w2):=qA (left - 1) hwo.out.1 hb hwo.out.2 (aB B1.out hb2)
 clear hb2 hc1 hf1
 go_wp2_with fail
 clear hc2 hf2 B1 K1 W1 W1' hz1 RG SG
 go_loopw [36] (fun i wr=>∃ (j : Nat) (lf : Int),j ≤ sn ∧ i = .int .i64 j ∧ 0 ≤ lf ∧ lf ≤ 300 ∧ Hid (Below w0.heap.size w0 wr ∧ dM wr b lf ∧ But b w wr ∧ ¬ CW (ps.drop j) lf below)) (fun i _=>sn - (intOf i).toNat)
 case atStart=>exact ⟨0,left - 1,Nat.zero_le _,rfl,by omega,by omega,R.out.1,R.out.2.1,R.out.2.2,by simpa using NO.out⟩
 case round =>
  obtain ⟨j,lf,hj,rfl,hf0,hf1,hs⟩:=hrel
  by_cases hlt : j < sn
  ·obtain ⟨T,hT⟩:=aF (l:=ps) (j:=j) (by rw [← L3.out];exact hlt)
   obtain ⟨bb,off,rfl,hc⟩:=H3.out.get (aJ hT)
   obtain ⟨xa,xn,xc,xb,xm,xd,xs,xsn,xsc,xq,xqn,xqc,hx⟩:=hc j _ hT
   have hK:=aA hs.out.1
   have c0:=hK _ _ hx.c0;have c1:=hK _ _ hx.c1;have c2:=hK _ _ hx.c2;have c3:=hK _ _ hx.c3
   have c4:=hK _ _ hx.c4;have c5:=hK _ _ hx.c5;have c6:=hK _ _ hx.c6;have c7:=hK _ _ hx.c7
   have X : Hid (cU w0 T (.agg #[str T.rule,.int .u8 T.form.op,str T.form.name,.slice xa xn xc,.slice xb xm xd,.int .i64 T.label,.slice xs xsn xsc,.slice xq xqn xqc])):=⟨_,_,_,_,_,_,_,_,_,_,_,_,rfl,hx.args,hx.parts,hx.sub,hx.marks⟩
   have HM:=Hd (List.mem_of_getElem? hT)
   have DR : Hid (ps.drop j = T :: ps.drop (j + 1)):=by
    show _ = _
    obtain ⟨h1,h2⟩:=List.getElem?_eq_some_iff.1 hT
    rw [List.drop_eq_getElem_cons h1,h2]
   have hal : Hid (∀ o,Below w0.heap.size w0 (wr.alloc o) ∧ dM (wr.alloc o) b lf ∧ But b w (wr.alloc o)):=fun o=>by
    have hb1 : Below wr.heap.size wr (wr.alloc o):=bnew
    exact ⟨hs.out.1.trans (hb1.mono hs.out.1.size),hs.out.2.1.below hb1,hs.out.2.2.1.trans (But.of_below hb1)⟩
   by_cases hg : CV T lf (below + 1)
   ·have HG:=Hd hg
    clear hc hx hT hK hg
    go_wp2_with fail
    refine (ID T w0 _ b lf (below + 1) _ HR.out X.out (hal.out _).1 hb (hal.out _).2.1 HG.out.1 HG.out.2.1 hf1 (by omega) HG.out.2.2).mono ?_
    rintro e w3 ⟨rfl,r1,r2,r3⟩
    have R3 : Hid (Below w0.heap.size w0 w3 ∧ dM w3 b (lf - T.steps) ∧ But b w w3 ∧ ¬ CW (ps.drop (j + 1)) (lf - T.steps) below):=by
     refine ⟨r1,r2,(hal.out _).2.2.trans r3,fun h=>hs.out.2.2.2 ?_⟩
     rw [DR.out]
     refine ⟨by simp only [iX,HG.out.1,h.1,Bool.and_self],by have:=h.2.1;simp only [aE];omega, ?_⟩
     have h1:=h.2.2
     have h2:=HG.out.2.2
     simp only [dX]
     omega
    have z0 : 0 ≤ lf - T.steps:=by have:=HG.out.2.1;omega
    clear r1 r2 r3
    go_wp2_with fail
    go_roundw
    case rel=>exact ⟨j + 1,lf - T.steps,by omega,by go_num,z0,by omega,R3.out⟩
    case measure=>simp [intOf];omega
   ·have HG:=Hd hg
    have ZT:=Hd ((jM ps).1 ZP.out T HM.out)
    clear hc hx hT hK hg
    go_wp2_with fail
    refine (H.out T HM.out w0 _ b lf (below + 1) _ HR.out HRN.out X.out (hal.out _).1 hb (hal.out _).2.1 ZT.out HG.out hf0 hf1 (by omega) (by omega)).mono ?_
    rintro e w3 ⟨rfl,r1,r2⟩
    have R3 : Hid (Below w0.heap.size w0 w3 ∧ But b w w3):=⟨r1,(hal.out _).2.2.trans r2⟩
    clear r1 r2
    go_wp2_with fail
    go_ret
    exact ⟨rfl,R3.out.1,R3.out.2⟩
  ·exfalso
   have e : ps.drop j = []:=List.drop_of_length_le (by rw [← L3.out];omega)
   apply hs.out.2.2.2
   rw [e]
   exact ⟨rfl,by simp only [aE];omega,by simp only [dX];omega⟩
mutual
theorem NK : ∀ t : Pf,PfN t
 | .mk r f l ps ms=>pf_stepN r f l ps ms (JU ps)
theorem JU : ∀ l : List Pf,∀ t ∈ l,PfN t
 | [],_,h=>by cases h
 | x :: xs,t,h=>by
  rcases List.mem_cons.1 h with e | e
  ·rw [e];exact NK x
  ·exact JU xs t e
end
open Go Go.RowKit Ly
set_option maxHeartbeats 800000
theorem in_c (c lo hi : Int) (w : World) : Calls Tryz.prog 278 #[.int .u8 c,.int .u8 lo,.int .u8 hi] w fun e w'=>e = .returned (.bool (decide (lo ≤ c) && decide (c ≤ hi))) ∧ w = w':=by
 by_cases h1 : lo ≤ c
 ·by_cases h2 : c ≤ hi
  all_goals
   go_enter Tryz.func278,Tryz.ntmps278
   go_wp2_with fail
   go_ret
   refine ⟨?_,rfl⟩
   first | rfl | (simp_all;done) | (simp_all;omega) | (simp_all;rfl)
 ·go_enter Tryz.func278,Tryz.ntmps278
  go_wp2_with fail
  go_ret
  refine ⟨?_,rfl⟩
  first | rfl | (simp_all;done) | (simp_all;omega) | (simp_all;rfl)
end Go.Proofs.YtcandidgaegghaaGreatDoor
namespace Ly
open Go.Lib
/- Names. -/
def inR (c lo hi : Int) : Bool:=decide (lo ≤ c) && decide (c ≤ hi)
def fK (d : Bool) (c : UInt8) : Bool:=inR c.toNat 48 57 || (!d && (inR c.toNat 65 90 || inR c.toNat 97 122))
def eU (d : Bool) (s : Bs) : Bool:=(s.drop 1).all (fK d) && (decide (1 ≤ s.length) && decide (s.length ≤ 16))
theorem lettersP_digit (c : UInt8) : fK true c = digit c:=by
 rw [Bool.eq_iff_iff];simp [fK,inR,digit,UInt8.le_iff_toNat_le];omega
theorem oW (c : UInt8) : fK false c = bR c:=by
 rw [Bool.eq_iff_iff];simp [fK,inR,bR,small,cZ,digit,UInt8.le_iff_toNat_le];omega
theorem oX (d : Bool) (q : UInt8 → Bool) (h : ∀ c,fK d c = q c) (c : UInt8) (r : Bs) : eU d (c :: r) = (r.all q && decide (r.length + 1 ≤ 16)):=by
 have : fK d = q:=funext h
 simp [eU,this]
theorem lP {s : Bs} (h : eG s = true) : s = wAll ∨ s = eA ∨ s = cF ∨ s = iZ ∨ s = eO ∨ s = mK:=by
 simpa [eG,or_assoc] using h
theorem varName_ref (c : UInt8) (r : Bs) : aZ (c :: r) = (eU true (c :: r) && inR c.toNat 117 122):=by
 rw [oX true digit lettersP_digit]
 have e : ((117 ≤ c && c ≤ 122 : Bool)) = inR c.toNat 117 122:=by rw [Bool.eq_iff_iff];simp [inR,UInt8.le_iff_toNat_le];omega
 have : aZ (c :: r) = (decide (r.length + 1 ≤ 16) && !eG (c :: r) && (117 ≤ c && c ≤ 122) && r.all digit):=rfl
 rw [this,e]
 cases hr : eG (c :: r)
 ·cases decide (r.length + 1 ≤ 16) <;> cases inR c.toNat 117 122 <;> cases r.all digit <;> rfl
 ·rcases lP hr with h | h | h | h | h | h <;> cases h <;> decide
theorem funName_ref (c : UInt8) (r : Bs) (h : ¬ (c :: r = wAll ∨ c :: r = eA ∨ c :: r = cF ∨ c :: r = iZ ∨ c :: r = eO)) : dO (c :: r) = (eU false (c :: r) && inR c.toNat 97 116):=by
 rw [oX false bR oW]
 have e : ((97 ≤ c && c ≤ 116 : Bool)) = inR c.toNat 97 116:=by rw [Bool.eq_iff_iff];simp [inR,UInt8.le_iff_toNat_le];omega
 have : dO (c :: r) = (decide (r.length + 1 ≤ 16) && !eG (c :: r) && (97 ≤ c && c ≤ 116) && r.all bR):=rfl
 rw [this,e]
 cases hr : eG (c :: r)
 ·cases decide (r.length + 1 ≤ 16) <;> cases inR c.toNat 97 116 <;> cases r.all bR <;> rfl
 ·rcases lP hr with h' | h' | h' | h' | h' | h'
  ·exact absurd (.inl h') h
  ·exact absurd (.inr (.inl h')) h
  ·exact absurd (.inr (.inr (.inl h'))) h
  ·exact absurd (.inr (.inr (.inr (.inl h')))) h
  ·exact absurd (.inr (.inr (.inr (.inr h')))) h
  ·cases h';decide
theorem funName_reserved {s : Bs} (h : s = wAll ∨ s = eA ∨ s = cF ∨ s = iZ ∨ s = eO) : dO s = false:=by
 rcases h with h | h | h | h | h <;> cases h <;> decide
theorem predName_ref (c : UInt8) (r : Bs) : bN (c :: r) = (eU false (c :: r) && inR c.toNat 65 90):=by
 rw [oX false bR oW]
 have e : cZ c = inR c.toNat 65 90:=by rw [Bool.eq_iff_iff];simp [inR,cZ,UInt8.le_iff_toNat_le];omega
 have : bN (c :: r) = (decide (r.length + 1 ≤ 16) && !eG (c :: r) && cZ c && r.all bR):=rfl
 rw [this,e]
 cases hr : eG (c :: r)
 ·cases decide (r.length + 1 ≤ 16) <;> cases inR c.toNat 65 90 <;> cases r.all bR <;> rfl
 ·rcases lP hr with h | h | h | h | h | h <;> cases h <;> decide
def rowB (op : Int) (n : Bs) (k m : Nat) : Bool :=
 if op = 1 then bN n && (decide (k ≤ 4) && decide (m = 0))
 else if op = 2 then n.isEmpty && (decide (k = 0) && decide (m = 0))
 else if op = 3 ∨ op = 10 ∨ op = 11 ∨ op = 12 ∨ op = 13 then n.isEmpty && (decide (k = 0) && decide (m = 1))
 else if op = 4 ∨ op = 5 ∨ op = 6 ∨ op = 7 ∨ op = 14 then n.isEmpty && (decide (k = 0) && decide (m = 2))
 else if op = 8 ∨ op = 9 then aZ n && (decide (k = 0) && decide (m = 1))
 else false
theorem rowB_ok (op : Int) (n : Bs) (ts : List Tm) (fs : List Fm) : (Fm.mk op n ts fs).ok = (rowB op n ts.length fs.length && (cJ ts && dR fs)):=by
 have hts : ts.isEmpty = decide (ts.length = 0):=by cases ts <;> simp
 simp only [Fm.ok,hts]
 by_cases h : op = 1 ∨ op = 2 ∨ op = 3 ∨ op = 4 ∨ op = 5 ∨ op = 6 ∨ op = 7 ∨ op = 8 ∨ op = 9 ∨ op = 10 ∨ op = 11 ∨ op = 12 ∨ op = 13 ∨ op = 14
 ·rcases h with rfl | rfl | rfl | rfl | rfl | rfl | rfl | rfl | rfl | rfl | rfl | rfl | rfl | rfl
  all_goals
   simp only [rowB,arity]
   rw [Bool.eq_iff_iff]
   simp
   try grind
 ·have e1 : rowB op n ts.length fs.length = false:=by
   unfold rowB
   rw [if_neg (by omega),if_neg (by omega),if_neg (by omega),if_neg (by omega),if_neg (by omega)]
  have e2 : arity op = 9:=by
   unfold arity
   rw [if_neg (by omega),if_neg (by omega),if_neg (by omega)]
  rw [e1,e2]
  have : decide (fs.length = 9 ∧ fs.length ≤ 2) = false:=by simp;omega
  rw [this];rfl
end Ly
namespace Go.Proofs.YtcandidgaegghaaGreatDoor
open Go Go.RowKit Ly
set_option maxHeartbeats 1600000
theorem wY {s t : Bs} (h : ¬ s = t) : (s == t) = false:=by simpa using h
theorem in_r (c lo hi : Int) (w : World) : Calls Tryz.prog 278 #[.int .u8 c,.int .u8 lo,.int .u8 hi] w fun e w'=>e = .returned (.bool (inR c lo hi)) ∧ w = w':=in_c c lo hi w
theorem kW (s : Bs) (d : Bool) (w : World) (hs : s.length ≤ 9223372036854775807) : Calls Tryz.prog 277 #[str s,.bool d] w fun e w'=>e = .returned (.bool (eU d s)) ∧ w = w':=by
 obtain ⟨n,hn⟩ : ∃ n,s.length = n:=⟨_,rfl⟩
 rw [hn] at hs
 have HN:=Hd hn
 go_enter Tryz.func277,Tryz.ntmps277
 go_wp2_with fail
 go_loopw [5] (fun i wr=>∃ k : Nat,1 ≤ k ∧ (k ≤ n ∨ k = 1) ∧ i = .int .i64 k ∧ w = wr ∧ Hid ((s.drop 1).all (fK d) = (s.drop k).all (fK d))) (fun i _=>n + 1 - (intOf i).toNat)
 case atStart=>exact ⟨1,Nat.le_refl _,.inr rfl,rfl,rfl,rfl⟩
 case round =>
  obtain ⟨k,hk1,hk2,rfl,rfl,hs2⟩:=hrel
  by_cases hlt : k < n
  ·have hlt' : k < s.length:=by omega
   have S:=Hd (sB (fK d) hlt')
   have hu : Hid (fK d s[k] = (inR (s[k]).toNat 48 57 || (!d && (inR (s[k]).toNat 65 90 || inR (s[k]).toNat 97 122)))):=rfl
   have R5 : Hid (∀ lo hi W,Calls Tryz.prog 278 #[.int .u8 (s[k]'hlt').toNat,.int .u8 lo,.int .u8 hi] W fun e w''=>e = .returned (.bool (inR (s[k]'hlt').toNat lo hi)) ∧ W = w''):=fun lo hi W=>in_r _ lo hi W
   generalize inR (s[k]'hlt').toNat = I at R5 hu
   generalize fK d s[k] = L at S hu
   obtain ⟨b1,h1⟩ : ∃ b,I 48 57 = b:=⟨_,rfl⟩
   obtain ⟨b2,h2⟩ : ∃ b,I 65 90 = b:=⟨_,rfl⟩
   obtain ⟨b3,h3⟩ : ∃ b,I 97 122 = b:=⟨_,rfl⟩
   have H1:=Hd h1
   have H2:=Hd h2
   have H3:=Hd h3
   have hL : Hid (L = (b1 || (!d && (b2 || b3)))):=by rw [Hid,hu.out,h1,h2,h3]
   clear h1 h2 h3 hu
   subst hn
   have ex : ((b1 = true) ∨ (b1 = false ∧ d = false ∧ b2 = true) ∨ (b1 = false ∧ d = false ∧ b2 = false ∧ b3 = true)) ∨ ((b1 = false ∧ d = true) ∨ (b1 = false ∧ d = false ∧ b2 = false ∧ b3 = false)):=by
    cases b1 <;> cases d <;> cases b2 <;> cases b3 <;> simp
   rcases ex with ex | ex
   ·rcases ex with rfl | ⟨rfl,rfl,rfl⟩ | ⟨rfl,rfl,rfl,rfl⟩
    all_goals
     go_wp2_with (go_at_call 278;refine (R5.out _ _ _).mono ?_;rintro e w1 ⟨rfl,rfl⟩;first | rw [show I 48 57 = _ from H1.out] | rw [show I 65 90 = _ from H2.out] | rw [show I 97 122 = _ from H3.out])
     go_roundw
     case rel=>exact ⟨k + 1,by omega,by omega,by go_num,trivial,by rw [hs2.out,S.out,hL.out];rfl⟩
     case measure=>simp [intOf];omega
   ·rcases ex with ⟨rfl,rfl⟩ | ⟨rfl,rfl,rfl,rfl⟩
    all_goals
     go_wp2_with (go_at_call 278;refine (R5.out _ _ _).mono ?_;rintro e w1 ⟨rfl,rfl⟩;first | rw [show I 48 57 = _ from H1.out] | rw [show I 65 90 = _ from H2.out] | rw [show I 97 122 = _ from H3.out])
     go_ret
     refine ⟨aY ?_,rfl⟩
     rw [eU,hs2.out,S.out,hL.out];rfl
  ·have hA : Hid ((s.drop 1).all (fK d) = true):=by rw [Hid,hs2.out,List.drop_of_length_le (by omega)];rfl
   have hB : eU d s = (decide (1 ≤ s.length) && decide (s.length ≤ 16)):=by rw [eU,hA.out,Bool.true_and]
   rcases (show n = 0 ∨ (1 ≤ n ∧ n ≤ 16) ∨ 16 < n by omega) with h0 | ⟨h0,h1⟩ | h0
   ·subst h0
    go_wp2_with fail
    go_ret
    exact ⟨aY (by rw [hB,HN.out];rfl),rfl⟩
   ·have d1 : (0 : Int) < n:=by omega
    go_wp2_with fail
    go_ret
    exact ⟨aY (by rw [hB,HN.out,decide_eq_true h0,decide_eq_true h1,decide_eq_true (show (n : Int) ≤ 16 by omega)];rfl),rfl⟩
   ·have d1 : (0 : Int) < n:=by omega
    have d2 : ¬ n ≤ 16:=by omega
    go_wp2_with fail
    go_ret
    exact ⟨aY (by rw [hB,HN.out,decide_eq_false d2,Bool.and_false,decide_eq_false (show ¬ (n : Int) ≤ 16 by omega)]),rfl⟩
theorem uS (s : Bs) (w : World) (hs : s.length ≤ 9223372036854775807) : Calls Tryz.prog 214 #[str s] w fun e w'=>e = .returned (.bool (aZ s)) ∧ w = w':=by
 cases s with
 | nil =>
  have R : Hid (∀ W,Calls Tryz.prog 277 #[str [],.bool true] W fun e w'=>e = .returned (.bool false) ∧ W = w'):=fun W=>kW [] true W hs
  go_enter Tryz.func214,Tryz.ntmps214
  go_wp2_with (go_at_call 277;refine (R.out _).mono ?_;rintro e w1 ⟨rfl,rfl⟩)
  go_ret
  exact ⟨rfl,rfl⟩
 | cons c r =>
  have R : Hid (∀ W,Calls Tryz.prog 277 #[str (c :: r),.bool true] W fun e w'=>e = .returned (.bool (eU true (c :: r))) ∧ W = w'):=fun W=>kW (c :: r) true W hs
  have R5 : Hid (∀ W,Calls Tryz.prog 278 #[.int .u8 c.toNat,.int .u8 117,.int .u8 122] W fun e w''=>e = .returned (.bool (inR c.toNat 117 122)) ∧ W = w''):=fun W=>in_r _ _ _ W
  have E:=Hd (varName_ref c r)
  generalize eU true (c :: r) = B at R E
  generalize inR c.toNat 117 122 = I at R5 E
  cases B <;> cases I
  all_goals
   go_enter Tryz.func214,Tryz.ntmps214
   go_wp2_with (first
    | (go_at_call 277;refine (R.out _).mono ?_;rintro e w1 ⟨rfl,rfl⟩)
    | (go_at_call 278;refine (R5.out _).mono ?_;rintro e w1 ⟨rfl,rfl⟩))
   go_ret
   exact ⟨aY (by rw [E.out];rfl),rfl⟩
theorem Predicate2_c (s : Bs) (w : World) (hs : s.length ≤ 9223372036854775807) : Calls Tryz.prog 216 #[str s] w fun e w'=>e = .returned (.bool (bN s)) ∧ w = w':=by
 cases s with
 | nil =>
  have R : Hid (∀ W,Calls Tryz.prog 277 #[str [],.bool false] W fun e w'=>e = .returned (.bool false) ∧ W = w'):=fun W=>kW [] false W hs
  go_enter Tryz.func216,Tryz.ntmps216
  go_wp2_with (go_at_call 277;refine (R.out _).mono ?_;rintro e w1 ⟨rfl,rfl⟩)
  go_ret
  exact ⟨rfl,rfl⟩
 | cons c r =>
  have R : Hid (∀ W,Calls Tryz.prog 277 #[str (c :: r),.bool false] W fun e w'=>e = .returned (.bool (eU false (c :: r))) ∧ W = w'):=fun W=>kW (c :: r) false W hs
  have R5 : Hid (∀ W,Calls Tryz.prog 278 #[.int .u8 c.toNat,.int .u8 65,.int .u8 90] W fun e w''=>e = .returned (.bool (inR c.toNat 65 90)) ∧ W = w''):=fun W=>in_r _ _ _ W
  have E:=Hd (predName_ref c r)
  generalize eU false (c :: r) = B at R E
  generalize inR c.toNat 65 90 = I at R5 E
  cases B <;> cases I
  all_goals
   go_enter Tryz.func216,Tryz.ntmps216
   go_wp2_with (first
    | (go_at_call 277;refine (R.out _).mono ?_;rintro e w1 ⟨rfl,rfl⟩)
    | (go_at_call 278;refine (R5.out _).mono ?_;rintro e w1 ⟨rfl,rfl⟩))
   go_ret
   exact ⟨aY (by rw [E.out];rfl),rfl⟩
theorem Function2_c (s : Bs) (w : World) (hs : s.length ≤ 9223372036854775807) : Calls Tryz.prog 215 #[str s] w fun e w'=>e = .returned (.bool (dO s)) ∧ w = w':=by
 by_cases hr : s = wAll ∨ s = eA ∨ s = cF ∨ s = iZ ∨ s = eO
 ·rw [funName_reserved hr]
  rcases hr with rfl | rfl | rfl | rfl | rfl
  all_goals
   go_enter Tryz.func215,Tryz.ntmps215
   go_wp2_with fail
   go_ret
   exact ⟨rfl,rfl⟩
 ·have e1 : (s == [97,108,108]) = false:=wY fun h=>hr (.inl h)
  have e2 : (s == [115,111,109,101]) = false:=wY fun h=>hr (.inr (.inl h))
  have e3 : (s == [102,97,108,115,101]) = false:=wY fun h=>hr (.inr (.inr (.inl h)))
  have e4 : (s == [110,101,120,116]) = false:=wY fun h=>hr (.inr (.inr (.inr (.inl h))))
  have e5 : (s == [97,108,119,97,121,115]) = false:=wY fun h=>hr (.inr (.inr (.inr (.inr h))))
  have HR:=Hd hr
  clear hr
  cases s with
  | nil =>
   clear e1 e2 e3 e4 e5
   have R : Hid (∀ W,Calls Tryz.prog 277 #[str [],.bool false] W fun e w'=>e = .returned (.bool false) ∧ W = w'):=fun W=>kW [] false W hs
   go_enter Tryz.func215,Tryz.ntmps215
   go_wp2_with (go_at_call 277;refine (R.out _).mono ?_;rintro e w1 ⟨rfl,rfl⟩)
   go_ret
   exact ⟨rfl,rfl⟩
  | cons c r =>
   have R : Hid (∀ W,Calls Tryz.prog 277 #[str (c :: r),.bool false] W fun e w'=>e = .returned (.bool (eU false (c :: r))) ∧ W = w'):=fun W=>kW (c :: r) false W hs
   have R5 : Hid (∀ W,Calls Tryz.prog 278 #[.int .u8 c.toNat,.int .u8 97,.int .u8 116] W fun e w''=>e = .returned (.bool (inR c.toNat 97 116)) ∧ W = w''):=fun W=>in_r _ _ _ W
   have E:=Hd (funName_ref c r HR.out)
   generalize eU false (c :: r) = B at R E
   generalize inR c.toNat 97 116 = I at R5 E
   cases B <;> cases I
   all_goals
    go_enter Tryz.func215,Tryz.ntmps215
    go_wp2_with (first
     | (go_at_call 277;refine (R.out _).mono ?_;rintro e w1 ⟨rfl,rfl⟩)
     | (go_at_call 278;refine (R5.out _).mono ?_;rintro e w1 ⟨rfl,rfl⟩))
    go_ret
    exact ⟨aY (by rw [E.out];rfl),rfl⟩
end Go.Proofs.YtcandidgaegghaaGreatDoor
