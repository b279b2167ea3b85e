/- lyceumlaw41.proofs answers true. Conditions: a small proof; lines that are not long; the program's tables lie as laid. Printed by gen/genpra.py. -/
import Derived.Test.YtcandidgaegghaaGreatDoorCpZ
import Derived.Test.YtcandidgaegghaaGreatDoorOvIZ
import Derived.Test.YtcandidgaegghaaGreatDoorOvJZ
import Derived.Test.YtcandidgaegghaaGreatDoorRaGZ
import Derived.Test.YtcandidgaegghaaGreatDoorMdSBZ
import Derived.Test.YtcandidgaegghaaGreatDoorLpBZ
import Derived.Test.YtcandidgaegghaaGreatDoorAwakeZ
import Derived.Test.YtcandidgaegghaaGreatDoorPlZ
import Derived.Test.YtcandidgaegghaaGreatDoorOvAZ
import Derived.Test.YtcandidgaegghaaGreatDoorRefDZ
import Derived.Test.YtcandidgaegghaaGreatDoorRaAZ
import Derived.Stop.LaidErr
set_option maxRecDepth 10000
set_option linter.unusedSimpArgs false
set_option linter.unusedVariables false
namespace Go.Proofs.YtcandidgaegghaaGreatDoor
open Go Go.RowKit Go.Sort Ly
def pf0 : Pf:=.mk [] (.mk 0 [] [] []) 0 [] []
structure PwS (w : World) (p : Pf) (ls : List Bs) (pa pb ps pq : Option Addr) (pn pc pm pd psn psc pqn pqc : Nat) (la1 ln1 lc1 la2 ln2 lc2 la3 ln3 lc3 la4 ln4 lc4 : Nat) (g5 tb N tc : Nat) (W : World) : Prop where
 bw : Below w.heap.size w W
 c2 : W.heap[w.heap.size]? = some (.cells #[str p.rule,.int .u8 p.form.op,str p.form.name,.slice pa pn pc,.slice pb pm pd,.int .i64 p.label,.slice ps psn psc,.slice pq pqn pqc] 53 (0,0))
 c5 : W.heap[g5]? = some (.cells #[str p.rule,.int .u8 p.form.op,str p.form.name,.slice (some ⟨la1,0,none⟩) ln1 lc1,.slice (some ⟨la2,0,none⟩) ln2 lc2,.int .i64 p.label,.slice (some ⟨la3,0,none⟩) ln3 lc3,.slice (some ⟨la4,0,none⟩) ln4 lc4] 53 (0,0))
 lp : PfL W p [str p.rule,.int .u8 p.form.op,str p.form.name,.slice (some ⟨la1,0,none⟩) ln1 lc1,.slice (some ⟨la2,0,none⟩) ln2 lc2,.int .i64 p.label,.slice (some ⟨la3,0,none⟩) ln3 lc3,.slice (some ⟨la4,0,none⟩) ln4 lc4]
 lt : eI W 1 (kN ls) (marksOf uQ 12) ls.length (.slice (some ⟨tb,0,none⟩) N tc)
section
variable {w : World} {p : Pf} {ls : List Bs} {pa pb ps pq : Option Addr} {pn pc pm pd psn psc pqn pqc : Nat} {la1 ln1 lc1 la2 ln2 lc2 la3 ln3 lc3 la4 ln4 lc4 : Nat} {g5 tb N tc : Nat} {W W' : World}
theorem PwS.below (h : PwS w p ls pa pb ps pq pn pc pm pd psn psc pqn pqc la1 ln1 lc1 la2 ln2 lc2 la3 ln3 lc3 la4 ln4 lc4 g5 tb N tc W) (k : Below W.heap.size W W') : PwS w p ls pa pb ps pq pn pc pm pd psn psc pqn pqc la1 ln1 lc1 la2 ln2 lc2 la3 ln3 lc3 la4 ln4 lc4 g5 tb N tc W' :=
 ⟨aB h.bw k,kc k h.c2,kc k h.c5,h.lp.keep (aA k),h.lt.keep (aA k)⟩
end
theorem PfL.val {W : World} {p : Pf} {a b s q : Option Addr} {n c m d sn sc qn qc : Nat} (h : PfL W p [str p.rule,.int .u8 p.form.op,str p.form.name,.slice a n c,.slice b m d,.int .i64 p.label,.slice s sn sc,.slice q qn qc]) :
  cU W p (.agg #[str p.rule,.int .u8 p.form.op,str p.form.name,.slice a n c,.slice b m d,.int .i64 p.label,.slice s sn sc,.slice q qn qc]):=by
 obtain ⟨a',u',q',s',e,h1,h2,h3,h4⟩:=rV.1 h
 simp only [List.cons.injEq,and_true,true_and] at e
 obtain ⟨rfl,rfl,rfl,rfl⟩:=e
 exact ⟨_,_,_,_,_,_,_,_,_,_,_,_,rfl,h1.at,h2.at,h4.at,h3.at⟩
def XIs (ls : List Bs) (X : Pf) (fc : Int) : Prop:=(fc = 0 ∧ ls.length ≤ 300 ∧ dB ls = some X) ∨ (fc = 2 ∧ ls.length ≤ 300 ∧ X = pf0 ∧ dB ls = none) ∨ (fc = 5 ∧ 300 < ls.length ∧ X = pf0)
theorem rp_x {ls : List Bs} {w w' : World} {e : Ending} (h : zM ls w e w') : ∃ (X : Pf) (fc : Int) (xa xb xs xq : Option Addr) (xn xc xm xd xsn xsc xqn xqc : Nat),e = .returned (.tuple #[.agg #[str X.rule,.int .u8 X.form.op,str X.form.name,.slice xa xn xc,.slice xb xm xd,.int .i64 X.label,.slice xs xsn xsc,.slice xq xqn xqc],.int .i64 fc]) ∧ XIs ls X fc ∧ PfB (hide (lo w) w') X (.agg #[str X.rule,.int .u8 X.form.op,str X.form.name,.slice xa xn xc,.slice xb xm xd,.int .i64 X.label,.slice xs xsn xsc,.slice xq xqn xqc]) ∧ Below w.heap.size w w':=by
 obtain ⟨b,⟨P,v,h1,h2,h3,h4⟩ | ⟨c,h1,h2⟩⟩:=h
 ·have h5:=h4
  obtain ⟨a,n,c,b',m,d,s,sn,sc,q,qn,qc,rfl,-⟩:=h4
  exact ⟨P,0,a,b',s,q,n,c,m,d,sn,sc,qn,qc,h3,.inl ⟨rfl,h1,h2⟩,h5,b⟩
 ·refine ⟨pf0,c,none,none,none,none,0,0,0,0,0,0,0,0,h2, ?_,⟨_,_,_,_,_,_,_,_,_,_,_,_,rfl,AtB.nil,AtB.nil,AtB.nil,AtB.nil⟩,b⟩
  rcases h1 with ⟨h1,rfl⟩ | ⟨h1,h2,rfl⟩
  ·exact .inr (.inr ⟨rfl,h1,rfl⟩)
  ·exact .inr (.inl ⟨rfl,h1,rfl,by assumption⟩)
theorem post_text {p : Pf} {k : Nat} {x : Nat × Pf} (hx : x ∈ p.post k) : ∃ (i : Nat) (ln : Bs),(p.lines k)[i]? = some ln ∧ ln = nP x:=by
 obtain ⟨i,hi,e⟩:=List.mem_iff_getElem.1 hx
 exact ⟨i,nP x,by rw [Pf.lines_post,List.getElem?_map,List.getElem?_eq_getElem hi,e];rfl,rfl⟩
theorem body_text_le (r : Bs) (f : Fm) (l : Int) (ps : List Bs) : f.text.length ≤ (bS r f l ps).length:=by
 unfold bS
 split
 ·simp only [List.length_append];omega
 ·split <;> simp only [List.length_append] <;> omega
theorem line_text_le (x : Nat × Pf) : x.2.form.text.length ≤ (nP x).length:=by
 have:=body_text_le x.2.rule x.2.form x.2.label (aO x.1 x.2.sub x.2.marks)
 unfold nP
 rw [List.length_append]
 omega
theorem got_back {p : Pf} (h : p.right = true) (hl : ∀ ln ∈ p.lines 0,ln.length ≤ 16384) : dB (p.lines 0) = some p :=
 proofGot_lines h fun x hx=>by
  obtain ⟨i,ln,h1,rfl⟩:=post_text hx
  exact Nat.le_trans (line_text_le x) (hl _ (List.mem_of_getElem? h1))
mutual
theorem Pf.few_of_ok : ∀ p : Pf,p.ok = true → p.few
 | .mk r f l ps ms,h=>by
  simp only [Pf.ok,Bool.and_eq_true] at h
  exact ⟨(nT h.1.1).2,tC ps h.2⟩
theorem tC : ∀ l : List Pf,iX l = true → rI l
 | [],_=>trivial
 | p :: ps,h=>by
  simp only [iX,Bool.and_eq_true] at h
  exact ⟨Pf.few_of_ok p h.1,tC ps h.2⟩
end
mutual
theorem Pf.few_of_lim : ∀ p : Pf,p.lim → p.few
 | .mk r f l ps ms,h=>by
  simp only [Pf.lim] at h
  exact ⟨by omega,qQ ps h.2⟩
theorem qQ : ∀ l : List Pf,lK l → rI l
 | [],_=>trivial
 | p :: ps,h=>by
  simp only [lK] at h
  exact ⟨Pf.few_of_lim p h.1,qQ ps h.2⟩
end
mutual
theorem Pf.sz_of_ok : ∀ p : Pf,p.ok = true → p.sz
 | .mk r f l ps ms,h=>by
  simp only [Pf.ok,Bool.and_eq_true] at h
  refine ⟨?_,(nT h.1.1).1,vN ps h.2⟩
  have hs:=h.1.2
  unfold dF at hs
  split at hs
  ·rename_i e;rw [e];simp
  ·split at hs
   ·rename_i e;rw [e];unfold maxLen hole;simp
   ·simp only [Bool.and_eq_true] at hs
    have:=(EA hs.1.1.1.1).2
    unfold maxLen;omega
theorem vN : ∀ l : List Pf,iX l = true → qT l
 | [],_=>trivial
 | p :: ps,h=>by
  simp only [iX,Bool.and_eq_true] at h
  exact ⟨Pf.sz_of_ok p h.1,vN ps h.2⟩
end
theorem IC {w0 W : World} {p : Pf} {ba bb bs bq : Option Addr} {bn bc bm bd bsn bsc bqn bqc : Nat} (hb : p.bd) (h : PfB (hide (lo w0) W) p (.agg #[str p.rule,.int .u8 p.form.op,str p.form.name,.slice ba bn bc,.slice bb bm bd,.int .i64 p.label,.slice bs bsn bsc,.slice bq bqn bqc])) (h0 : w0.heap.size ≤ W.heap.size) : Calls Tryz.prog 115 #[.agg #[str p.rule,.int .u8 p.form.op,str p.form.name,.slice ba bn bc,.slice bb bm bd,.int .i64 p.label,.slice bs bsn bsc,.slice bq bqn bqc]] W fun e w'=>e = .returned (.tuple #[]) ∧ Ovr w0.heap.size (jE w0 W) W w':=by
 obtain ⟨a,n,c,b,m,d,s,sn,sc,q,qn,qc,e,h1,h2,h3,h4⟩:=h
 simp only [Value.agg.injEq,Array.mk.injEq,List.cons.injEq,and_true,true_and] at e
 obtain ⟨e1,e2,e3,e4⟩:=e
 rw [← e1] at h1
 rw [← e2] at h2
 rw [← e3] at h3
 rw [← e4] at h4
 obtain ⟨r,⟨op,nm,ts1,fs⟩,lb,ps,ms⟩:=p
 simp only [Pf.bd,Fm.nodes] at hb
 simp only [Pf.rule,Pf.form,Pf.label,Pf.sub,Pf.marks,Fm.op,Fm.name,Fm.args,Fm.sub] at h1 h2 h3 h4 ⊢
 obtain ⟨ka,hka⟩:=DC (w0:=w0) (W:=W) ts1 (by omega)
 obtain ⟨kf,hkf⟩:=DI (w0:=w0) (W:=W) fs (by omega) (DH fs (by omega))
 obtain ⟨kp,hkp⟩:=JY (w0:=w0) (W:=W) ps hb.1.2.1 hb.2 (IE ps hb.2)
 exact overProof_c kp w0.heap.size (jE w0 W) W r op nm _ _ lb _ _ ka kf (fun b hb=>hb.2) h0 (hka _ h1) (hkf kf (Nat.le_refl _) _ h2) (AR ms hb.1.2.2.1 hb.1.2.2.2 _ h4) (hkp kp (Nat.le_refl _) _ h3)
theorem rH {w w0 W W' : World} (h : Ovr w0.heap.size (jE w0 W) W W') (b0 : w.heap.size ≤ w0.heap.size) (bW : Below w.heap.size w W) : Below w.heap.size w W' :=
 ⟨h.os.trans bW.os,h.tape.trans bW.tape,h.output.trans bW.output,Nat.le_trans bW.size h.size,fun k hk=>(h.old k (Nat.lt_of_lt_of_le hk bW.size) (fun hs=>absurd hs.1 (by omega)) (.inl (by omega))).trans (bW.block k hk)⟩
theorem GT (W : World) : cU W pf0 (.agg #[.string ⟨#[]⟩,.int .u8 0,.string ⟨#[]⟩,.slice none 0 0,.slice none 0 0,.int .i64 0,.slice none 0 0,.slice none 0 0]):=⟨_,_,_,_,_,_,_,_,_,_,_,_,rfl,At.sl_nil (Nat.zero_le _),At.sl_nil (Nat.zero_le _),At.sl_nil (Nat.zero_le _),At.sl_nil (Nat.zero_le _)⟩
set_option maxHeartbeats 80000000 in
theorem proofs_c (p : Pf) (hz : p.sz) (hlim : p.lim) (hst : p.steps ≤ 60) (ls : List Bs) (hls : ls.length ≤ 300 → ∀ x ∈ ls,x.length ≤ 500) (hlb : ls.length * 16 ≤ 140737488351232) (x : Value) (la : Option Addr) (N lc : Nat) (w : World) (ht : Tabs w) (hp : iK w) (hx : cU w p x) (hL : aU w ls (.slice la N lc)) :
  Calls Tryz.prog 42 #[x,.slice la N lc] w (Rt (.bool true) w):=by
 have hx0:=hx
 obtain ⟨pa,pn,pc,pb,pm,pd,ps,psn,psc,pq,pqn,pqc,rfl,-⟩:=hx0
 have hN:=hL.len
 have N63:=le63 hN.2.2
 obtain rfl : N = ls.length:=hN.1
 have HV : Hid (∀ W,Below w.heap.size w W → cU W p (.agg #[str p.rule,.int .u8 p.form.op,str p.form.name,.slice pa pn pc,.slice pb pm pd,.int .i64 p.label,.slice ps psn psc,.slice pq pqn pqc])):=fun W hW=>hx.keep (aA hW)
 have HB : Hid (Below w.heap.size w (w.alloc (.cells #[str p.rule,.int .u8 p.form.op,str p.form.name,.slice pa pn pc,.slice pb pm pd,.int .i64 p.label,.slice ps psn psc,.slice pq pqn pqc] 53))):=bnew
 have HG:=Hd (heap_alloc_new w (.cells #[str p.rule,.int .u8 p.form.op,str p.form.name,.slice pa pn pc,.slice pb pm pd,.int .i64 p.label,.slice ps psn psc,.slice pq pqn pqc] 53))
 have HL : Hid (∀ W,Below w.heap.size w W → aU W ls (.slice la ls.length lc)):=fun W hW=>hL.keep (aA hW)
 have HTB : Hid (∀ W,Below w.heap.size w W → Tabs W ∧ iK W):=fun W hW=>⟨ht.keep (aA hW),hp.below hW⟩
 have C110:=Hd (vE p (w.alloc (.cells #[str p.rule,.int .u8 p.form.op,str p.form.name,.slice pa pn pc,.slice pb pm pd,.int .i64 p.label,.slice ps psn psc,.slice pq pqn pqc] 53)) _ (HV.out _ HB.out) (by omega) hlim)
 have C111 : Hid (∀ W,Below w.heap.size w W → Calls Tryz.prog 111 #[.slice la ls.length lc] W fun e w'=>∃ b cap,e = .returned (.slice (some ⟨b,0,none⟩) ls.length cap) ∧ eI (hide (lo W) w') 1 (kN ls) (marksOf uQ 12) ls.length (.slice (some ⟨b,0,none⟩) ls.length cap) ∧ Below W.heap.size W w'):=fun W hW =>
  lentTexts_c (kN ls) (strsV_one ls) ls.length hlb la ls.length lc W (CE (HL.out W hW))
 obtain ⟨LN,hLN⟩ : ∃ LN,pfLn p = LN:=⟨_,rfl⟩
 obtain ⟨cd,hcd⟩ : ∃ cd,pfCd p = cd:=⟨_,rfl⟩
 have ANS : Hid (∀ {e : Ending} {W w' : World},zJ p W e w' → ∃ a n c,e = .returned (.tuple #[.slice a n c,.int .i64 cd]) ∧ aU w' LN (.slice a n c) ∧ Below W.heap.size W w'):=fun {e W w'} h=>by
  obtain ⟨v,he,ho,hb⟩:=h
  obtain ⟨sa,sN,sC,rfl⟩:=aU.slice ho.strsAt
  exact ⟨sa,sN,sC,by rw [he,hcd],by rw [← hLN];exact ho.strsAt,hb⟩
 have C24 : Hid (∀ {la1 ln1 lc1 la2 ln2 lc2 la3 ln3 lc3 la4 ln4 lc4 g5 tb tc : Nat} W,PwS w p ls pa pb ps pq pn pc pm pd psn psc pqn pqc la1 ln1 lc1 la2 ln2 lc2 la3 ln3 lc3 la4 ln4 lc4 g5 tb ls.length tc W → Calls Tryz.prog 24 #[.agg #[str p.rule,.int .u8 p.form.op,str p.form.name,.slice (some ⟨la1,0,none⟩) ln1 lc1,.slice (some ⟨la2,0,none⟩) ln2 lc2,.int .i64 p.label,.slice (some ⟨la3,0,none⟩) ln3 lc3,.slice (some ⟨la4,0,none⟩) ln4 lc4]] W fun e w'=>∃ a n c,e = .returned (.tuple #[.slice a n c,.int .i64 cd]) ∧ aU w' LN (.slice a n c) ∧ Below W.heap.size W w'):=fun W S =>
  (zK p hz _ W (HTB.out W S.bw).1.r (HTB.out W S.bw).1.n (HTB.out W S.bw).2 S.lp.val).mono fun e w' h=>ANS.out h
 have C46 : Hid (∀ (ms : List Bs) (a : Option Addr) (n c : Nat) W,(ms.length ≤ 300 → ∀ x ∈ ms,x.length ≤ 1000000000) → Below w.heap.size w W → aU W ms (.slice a n c) → Calls Tryz.prog 46 #[.slice a n c] W fun e w'=>∃ (X : Pf) (fc : Int) (xa xb xs xq : Option Addr) (xn xc xm xd xsn xsc xqn xqc : Nat),e = .returned (.tuple #[.agg #[str X.rule,.int .u8 X.form.op,str X.form.name,.slice xa xn xc,.slice xb xm xd,.int .i64 X.label,.slice xs xsn xsc,.slice xq xqn xqc],.int .i64 fc]) ∧ XIs ms X fc ∧ PfB (hide (lo W) w') X (.agg #[str X.rule,.int .u8 X.form.op,str X.form.name,.slice xa xn xc,.slice xb xm xd,.int .i64 X.label,.slice xs xsn xsc,.slice xq xqn xqc]) ∧ Below W.heap.size W w'):=fun ms a n c W hms hW h =>
  (ReadProof_any ms hms a n c W (HTB.out W hW).1 (HTB.out W hW).2 h).mono fun e w' h=>rp_x h
 have C112 : Hid (∀ {la1 ln1 lc1 la2 ln2 lc2 la3 ln3 lc3 la4 ln4 lc4 g5 tb tc : Nat} W,PwS w p ls pa pb ps pq pn pc pm pd psn psc pqn pqc la1 ln1 lc1 la2 ln2 lc2 la3 ln3 lc3 la4 ln4 lc4 g5 tb ls.length tc W → Calls Tryz.prog 112 #[.agg #[str p.rule,.int .u8 p.form.op,str p.form.name,.slice (some ⟨la1,0,none⟩) ln1 lc1,.slice (some ⟨la2,0,none⟩) ln2 lc2,.int .i64 p.label,.slice (some ⟨la3,0,none⟩) ln3 lc3,.slice (some ⟨la4,0,none⟩) ln4 lc4],.agg #[str p.rule,.int .u8 p.form.op,str p.form.name,.slice pa pn pc,.slice pb pm pd,.int .i64 p.label,.slice ps psn psc,.slice pq pqn pqc]] W (Rt (.bool true) W)):=fun W S=>vD p _ _ W S.lp (HV.out W S.bw)
 have C113 : Hid (∀ {la1 ln1 lc1 la2 ln2 lc2 la3 ln3 lc3 la4 ln4 lc4 g5 tb tc : Nat} W,PwS w p ls pa pb ps pq pn pc pm pd psn psc pqn pqc la1 ln1 lc1 la2 ln2 lc2 la3 ln3 lc3 la4 ln4 lc4 g5 tb ls.length tc W → Calls Tryz.prog 113 #[.slice (some ⟨tb,0,none⟩) ls.length tc,.slice la ls.length lc] W (Rt (.bool true) W)):=fun W S=>keptTexts_c ls _ la ls.length lc W S.lt (CE (HL.out W S.bw))
 have C114 : Hid (∀ W,Below w.heap.size w W → Calls Tryz.prog 114 #[.agg #[str p.rule,.int .u8 p.form.op,str p.form.name,.slice pa pn pc,.slice pb pm pd,.int .i64 p.label,.slice ps psn psc,.slice pq pqn pqc]] W fun e w'=>∃ a n c,e = .returned (.tuple #[.slice a n c,.int .i64 cd]) ∧ aU w' LN (.slice a n c) ∧ Below W.heap.size W w'):=fun W hW=>(tG p hz (Pf.few_of_lim p hlim) (by omega) _ W (HV.out W hW)).mono fun e w' h=>ANS.out h
 have C114x : Hid (∀ (X : Pf) W v,X.right = true → cU W X v → Calls Tryz.prog 114 #[v] W fun e w'=>∃ a n c,e = .returned (.tuple #[.slice a n c,.int .i64 0]) ∧ aU w' (X.lines 0) (.slice a n c) ∧ Below W.heap.size W w'):=fun X W v hr h=>by
  have h1:=(nR X).1 hr
  refine (tG X (Pf.sz_of_ok X h1.1) (Pf.few_of_ok X h1.1) (by have:=h1.2.1;omega) v W h).mono fun e w' h=>?_
  obtain ⟨v,he,ho,hb⟩:=h
  obtain ⟨sa,sN,sC,rfl⟩:=aU.slice ho.strsAt
  refine ⟨sa,sN,sC, ?_, ?_,hb⟩
  ·rw [he];unfold pfCd;rw [hr];rfl
  ·have:=ho.strsAt
   rwa [show pfLn X = X.lines 0 by unfold pfLn;rw [hr];rfl] at this
 have C19 : Hid (∀ (l : List Bs) W oa on oc oa' on' oc',aU W l (.slice oa on oc) → aU W l (.slice oa' on' oc') → Calls Tryz.prog 19 #[.slice oa on oc,.slice oa' on' oc'] W (Rt (.bool true) W)):=fun l W oa on oc oa' on' oc' h1 h2=>by
  have:=iR l l oa oa' on oc on' oc' W h1 h2
  simpa using this
 have C27 : Hid (∀ (X : Pf) W u v,cU W X u → cU W X v → Calls Tryz.prog 27 #[u,v] W (Rt (.bool true) W)):=fun X W u v h1 h2=>by
  have:=lU X X u v W h1 h2
  rwa [nQ] at this
 have HLS : Hid (ls.length ≤ 300 → ∀ x ∈ ls,x.length ≤ 1000000000):=fun h x hx=>by have:=hls h x hx;omega
 have TC : Hid (cd = 2 ∨ (cd = 0 ∧ p.right = true ∧ p.lines 0 = LN)):=by
  show _ ∨ _
  rw [← hLN,← hcd]
  unfold pfCd pfLn
  cases h : p.right
  ·exact .inl rfl
  ·exact .inr ⟨rfl,rfl,rfl⟩
 have BD:=Hd (Pf.bd_of p hlim (by omega))
 have ecd : (cd == cd) = true:=by simp
 have ncd : (cd != cd) = false:=by simp
 clear hx hL hN ht hp hz hlim hst hls hlb hLN hcd
 go_enter Tryz.func42,Tryz.ntmps42
 go_upto_region 9 with (first
  | (go_at_call 19;have Z114b:=Z114.out;clear Z114b;refine (C19.out LN _ _ _ _ _ _ _ HA6.out HO.out).mono ?_;rintro e w7 ⟨rfl,b7⟩;have S7:=Hd (S6.out.below b7);have HX7:=Hd (kc b7 HX6.out);have VX7:=Hd (VX6.out.keep (fZ b7));have HA7:=Hd (HA6.out.keep (aA b7));clear b7)
  | (go_at_call 114;have Z113b:=Z113.out;clear Z113b;refine (C114.out _ S5.out.bw).mono ?_;rintro e w6 ⟨oa,on,oc,rfl,ho,b6⟩;have HO:=Hd ho;have S6:=Hd (S5.out.below b6);have HX6:=Hd (kc b6 HX5.out);have VX6:=Hd (VX5.out.keep (fZ b6));have HA6:=Hd (HA5.out.keep (aA b6));have Z114:=Hd True.intro;clear ho b6)
  | (go_at_call 113;have Z112b:=Z112.out;clear Z112b;refine (C113.out _ S4.out).mono ?_;rintro e w5 ⟨rfl,b5⟩;have S5:=Hd (S4.out.below b5);have HX5:=Hd (kc b5 HX4.out);have VX5:=Hd (VX4.out.keep (fZ b5));have HA5:=Hd (HA4.out.keep (aA b5));have Z113:=Hd True.intro;clear b5;clear k0 k1 k2 k3 k4 k5 k6 k7;obtain ⟨k0,k1,k2,k3,k4,k5,k6,k7⟩:=row53' S5.out.c2)
  | (go_at_call 112;have Z46b:=Z46.out;clear Z46b;refine (C112.out _ S3.out).mono ?_;rintro e w4 ⟨rfl,b4⟩;have S4:=Hd (S3.out.below b4);have HX4:=Hd (kc b4 HX3.out);have VX4:=Hd (VX3.out.keep (fZ b4));have HA4:=Hd (HA3.out.keep (aA b4));have Z112:=Hd True.intro;clear b4 k0 k1 k2 k3 k4 k5 k6 k7 l0 l1 l2 l3 l4 l5 l6 l7;obtain ⟨k0,k1,k2,k3,k4,k5,k6,k7⟩:=row53' S4.out.c2)
  | (go_at_call 46;have Z24b:=Z24.out;clear Z24b;refine (C46.out ls _ _ _ _ HLS.out S2.out.bw (flat_strsL S2.out.lt.flat)).mono ?_;rintro e w3 ⟨X,fc,xa,xb,xs,xq,xn,xc,xm,xd,xsn,xsc,xqn,xqc,rfl,xi,vx,b3⟩;have XI:=Hd xi;have BA3:=Hd ((Below.refl w3.heap.size w3).alloc (Nat.le_refl _) (.cells #[str X.rule,.int .u8 X.form.op,str X.form.name,.slice xa xn xc,.slice xb xm xd,.int .i64 X.label,.slice xs xsn xsc,.slice xq xqn xqc] 53));have S3:=Hd ((S2.out.below b3).below BA3.out);have VX3 : Hid (PfB (w3.alloc (.cells #[str X.rule,.int .u8 X.form.op,str X.form.name,.slice xa xn xc,.slice xb xm xd,.int .i64 X.label,.slice xs xsn xsc,.slice xq xqn xqc] 53)) X (.agg #[str X.rule,.int .u8 X.form.op,str X.form.name,.slice xa xn xc,.slice xb xm xd,.int .i64 X.label,.slice xs xsn xsc,.slice xq xqn xqc])):=((vx.keep (kA _ _)).keep (fZ BA3.out));have HX3:=Hd (heap_alloc_new w3 (.cells #[str X.rule,.int .u8 X.form.op,str X.form.name,.slice xa xn xc,.slice xb xm xd,.int .i64 X.label,.slice xs xsn xsc,.slice xq xqn xqc] 53));have HA3:=Hd (HA.out.keep (aA (aB b3 BA3.out)));have Z46:=Hd True.intro;clear xi vx b3 k0 k1 k2 k3 k4 k5 k6 k7 l0 l1 l2 l3 l4 l5 l6 l7;obtain ⟨k0,k1,k2,k3,k4,k5,k6,k7⟩:=row53' S3.out.c2;obtain ⟨l0,l1,l2,l3,l4,l5,l6,l7⟩:=row53' S3.out.c5)
  | (go_at_call 24;refine (C24.out _ S1.out).mono ?_;rintro e w2' ⟨aa,an,ac,rfl,ha,b2⟩;have HA:=Hd ha;have S2:=Hd (S1.out.below b2);have Z24:=Hd True.intro;clear ha b2 k0 k1 k2 k3 k4 k5 k6 k7 l0 l1 l2 l3 l4 l5 l6 l7;obtain ⟨k0,k1,k2,k3,k4,k5,k6,k7⟩:=row53' S2.out.c2;obtain ⟨l0,l1,l2,l3,l4,l5,l6,l7⟩:=row53' S2.out.c5)
  | (go_at_call 111;refine (C111.out _ B1.out).mono ?_;rintro e w2 ⟨tb,tc,rfl,t2,b2⟩;have BA2:=Hd ((Below.refl w2.heap.size w2).alloc (Nat.le_refl _) (.cells #[str p.rule,.int .u8 p.form.op,str p.form.name,.slice (some ⟨la1,0,none⟩) ln1 lc1,.slice (some ⟨la2,0,none⟩) ln2 lc2,.int .i64 p.label,.slice (some ⟨la3,0,none⟩) ln3 lc3,.slice (some ⟨la4,0,none⟩) ln4 lc4] 53));have S1 : Hid (PwS w p ls pa pb ps pq pn pc pm pd psn psc pqn pqc la1 ln1 lc1 la2 ln2 lc2 la3 ln3 lc3 la4 ln4 lc4 w2.heap.size tb ls.length tc (w2.alloc (.cells #[str p.rule,.int .u8 p.form.op,str p.form.name,.slice (some ⟨la1,0,none⟩) ln1 lc1,.slice (some ⟨la2,0,none⟩) ln2 lc2,.int .i64 p.label,.slice (some ⟨la3,0,none⟩) ln3 lc3,.slice (some ⟨la4,0,none⟩) ln4 lc4] 53))):=⟨aB (aB B1.out b2) BA2.out,kc BA2.out (kc b2 R1.out),heap_alloc_new w2 _,(L1.out.keep (aA b2)).keep (aA BA2.out),(t2.keep (fG _ _)).keep (aA BA2.out)⟩;clear t2 b2;obtain ⟨k0,k1,k2,k3,k4,k5,k6,k7⟩:=row53' S1.out.c2;obtain ⟨l0,l1,l2,l3,l4,l5,l6,l7⟩:=row53' S1.out.c5)
  | (go_at_call 110;refine C110.out.mono ?_;rintro e w1 ⟨la1,ln1,lc1,la2,ln2,lc2,la3,ln3,lc3,la4,ln4,lc4,rfl,l1,b1⟩;have L1:=Hd (l1.keep (fG _ _));have B1:=Hd (aB HB.out b1);have R1:=Hd (kc b1 HG.out);clear l1 b1))
 clear C110 C111 C24 C112 C113 C114
 have C46b : Hid (cd = 0 → ∀ (a : Option Addr) (n c : Nat) W,(∀ ln ∈ LN,ln.length ≤ 16384) → Below w.heap.size w W → aU W LN (.slice a n c) → Calls Tryz.prog 46 #[.slice a n c] W fun e w'=>∃ (ba bb bs bq : Option Addr) (bn bc bm bd bsn bsc bqn bqc : Nat),e = .returned (.tuple #[.agg #[str p.rule,.int .u8 p.form.op,str p.form.name,.slice ba bn bc,.slice bb bm bd,.int .i64 p.label,.slice bs bsn bsc,.slice bq bqn bqc],.int .i64 0]) ∧ PfB (hide (lo W) w') p (.agg #[str p.rule,.int .u8 p.form.op,str p.form.name,.slice ba bn bc,.slice bb bm bd,.int .i64 p.label,.slice bs bsn bsc,.slice bq bqn bqc]) ∧ Below W.heap.size W w'):=fun h0 a n c W hl hW hs=>by
  rcases TC.out with h | ⟨-,hr,hln⟩
  ·omega
  refine (C46.out LN a n c W (fun _ x hx=>by have:=hl x hx;omega) hW hs).mono fun e w' h=>?_
  obtain ⟨X,fc,xa,xb,xs,xq,xn,xc,xm,xd,xsn,xsc,xqn,xqc,he,xi,hv,hb⟩:=h
  have hg:=got_back hr (by rw [hln];exact hl)
  rw [hln] at hg
  have hlen : LN.length ≤ 300:=by
   rw [← hln,Pf.lines_length]
   have:=((nR p).1 hr).2.1;omega
  rcases xi with ⟨rfl,-,h2⟩ | ⟨-,h1,-,h2⟩ | ⟨-,h1,-⟩
  ·rw [hg] at h2
   cases h2
   exact ⟨xa,xb,xs,xq,xn,xc,xm,xd,xsn,xsc,xqn,xqc,he,hv,hb⟩
  ·rw [hg] at h2;cases h2
  ·omega
 obtain ⟨k0,k1,k2,k3,k4,k5,k6,k7⟩:=row53' S7.out.c2
 obtain ⟨m0,m1,m2,m3,m4,m5,m6,m7⟩:=row53' HX7.out
 rcases XI.out with ⟨rfl,hle,hg⟩ | ⟨rfl,hle,hx0,-⟩ | ⟨rfl,hgt,hx0⟩
 ·have XR:=Hd (proofGot_some hg)
  clear hg hle XI
  go_upto_region 18 with (first
   | (go_at_call 19;refine (C19.out ls _ _ _ _ _ _ _ HY8.out (HL.out _ S8.out.bw)).mono ?_;rintro e w9 ⟨rfl,b9⟩;have S9':=Hd (S8.out.below b9);have HA9:=Hd (HA8.out.keep (aA b9));clear b9)
   | (go_at_call 114;refine (C114x.out X _ _ XR.out.1 VX7.out.w).mono ?_;rintro e w8 ⟨ya,yn,yc,rfl,hy,b8⟩;have HY8 : Hid (aU w8 ls (.slice ya yn yc)):=(by rw [XR.out.2.1] at hy;exact hy);have S8:=Hd (S7.out.below b8);have HA8:=Hd (HA7.out.keep (aA b8));clear hy b8))
  clear m0 m1 m2 m3 m4 m5 m6 m7
  rcases TC.out with rfl | ⟨rfl,-,-⟩
  ·go_wp2_with fail
   go_ret
   exact ⟨rfl,S9'.out.bw⟩
  have C46c:=Hd (C46b.out rfl)
  have aln:=HA9.out.len
  have al63:=le63 aln.2.2
  have l63 : an ≤ 9223372036854775807:=by have:=aln.2.1;omega
  obtain rfl : an = LN.length:=aln.1
  clear C46b aln k0 k1 k2 k3 k4 k5 k6 k7
  go_wp2_with fail
  go_loopw [88] (fun u wr=>∃ j : Nat,j ≤ LN.length ∧ u = .int .i64 j ∧ w9 = wr ∧ Hid (∀ i,i < j → ∀ ln,LN[i]? = some ln → ln.length ≤ 16384)) (fun u _=>LN.length - (intOf u).toNat)
  case atStart=>exact ⟨0,Nat.zero_le _,rfl,rfl,fun i hi=>absurd hi (Nat.not_lt_zero i)⟩
  case round =>
   obtain ⟨j,hj,rfl,rfl,hle⟩:=hrel
   by_cases hlt : j < LN.length
   ·obtain ⟨ln,hln⟩ : ∃ ln,LN[j]? = some ln:=⟨_,List.getElem?_eq_getElem hlt⟩
    obtain ⟨ab,ao,rfl,hc⟩:=HA9.out.get (aJ hln)
    have c0:=hc j ln hln
    have HLE:=Hd hle
    have HLN:=Hd hln
    by_cases hb : ln.length ≤ 16384
    ·have gb : decide ((16384 : Int) < ln.length) = false:=by simp;omega
     have HBB:=Hd hb
     clear hc hln hle hb
     go_wp2_with fail
     go_roundw
     case rel=>exact ⟨j + 1,by omega,by go_num,by first | trivial | rfl,fun i hi l2 h2=>by
      rcases Nat.lt_succ_iff_lt_or_eq.1 hi with h | rfl
      ·exact HLE.out i h l2 h2
      ·have:=HLN.out;rw [h2] at this;cases this;exact HBB.out⟩
     case measure=>simp [intOf];omega
    ·have gb : decide ((16384 : Int) < ln.length) = true:=by simp;omega
     clear hc hln hle hb
     go_wp2_with fail
     go_ret
     exact ⟨rfl,S9'.out.bw⟩
   ·obtain rfl : j = LN.length:=by omega
    have ALL : Hid (∀ ln ∈ LN,ln.length ≤ 16384):=fun ln hm=>by
     obtain ⟨i,hi,e⟩:=List.mem_iff_getElem.1 hm
     exact hle.out i hi ln (by rw [List.getElem?_eq_getElem hi,e])
    clear hle
    go_wp2_with (first
     | (go_at_call 115;refine (IC BD.out VB2.out Z82.out).mono ?_;rintro e w12 ⟨rfl,ov⟩;have OV:=Hd ov;clear ov)
     | (go_at_call 27;refine (C27.out p _ _ _ VB1.out.w (HV.out _ S9.out.bw)).mono ?_;rintro e w11 ⟨rfl,b11⟩;have S10:=Hd (S9.out.below b11);have HB11:=Hd (kc b11 HB10.out);have VB2:=Hd (VBH.out.keep (aS (p:=lo w9) (q:=lo w9) fun k h1 h2=>⟨h2,b11.block k h1⟩));have Z82 : Hid (w9.heap.size ≤ w11.heap.size):=Nat.le_trans Z81.out b11.size;clear b11 m0 m1 m2 m3 m4 m5 m6 m7;obtain ⟨m0,m1,m2,m3,m4,m5,m6,m7⟩:=row53' HB11.out)
     | (go_at_call 46;refine (C46c.out _ _ _ _ ALL.out S9'.out.bw HA9.out).mono ?_;rintro e w10 ⟨ba,bb,bs,bq,bn,bc,bm,bd,bsn,bsc,bqn,bqc,rfl,vb,b10⟩;have BA10:=Hd ((Below.refl w10.heap.size w10).alloc (Nat.le_refl _) (.cells #[str p.rule,.int .u8 p.form.op,str p.form.name,.slice ba bn bc,.slice bb bm bd,.int .i64 p.label,.slice bs bsn bsc,.slice bq bqn bqc] 53));have S9:=Hd ((S9'.out.below b10).below BA10.out);have HB10:=Hd (heap_alloc_new w10 (.cells #[str p.rule,.int .u8 p.form.op,str p.form.name,.slice ba bn bc,.slice bb bm bd,.int .i64 p.label,.slice bs bsn bsc,.slice bq bqn bqc] 53));have VBH : Hid (PfB (hide (lo w9) (w10.alloc (.cells #[str p.rule,.int .u8 p.form.op,str p.form.name,.slice ba bn bc,.slice bb bm bd,.int .i64 p.label,.slice bs bsn bsc,.slice bq bqn bqc] 53))) p (.agg #[str p.rule,.int .u8 p.form.op,str p.form.name,.slice ba bn bc,.slice bb bm bd,.int .i64 p.label,.slice bs bsn bsc,.slice bq bqn bqc])):=vb.keep (aS (p:=lo w9) (q:=lo w9) fun k h1 h2=>⟨h2,BA10.out.block k h1⟩);have VB1 : Hid (PfB (w10.alloc (.cells #[str p.rule,.int .u8 p.form.op,str p.form.name,.slice ba bn bc,.slice bb bm bd,.int .i64 p.label,.slice bs bsn bsc,.slice bq bqn bqc] 53)) p (.agg #[str p.rule,.int .u8 p.form.op,str p.form.name,.slice ba bn bc,.slice bb bm bd,.int .i64 p.label,.slice bs bsn bsc,.slice bq bqn bqc])):=VBH.out.keep (kA _ _);have Z81 : Hid (w9.heap.size ≤ (w10.alloc (.cells #[str p.rule,.int .u8 p.form.op,str p.form.name,.slice ba bn bc,.slice bb bm bd,.int .i64 p.label,.slice bs bsn bsc,.slice bq bqn bqc] 53)).heap.size):=Nat.le_trans b10.size BA10.out.size;clear vb b10;obtain ⟨k0,k1,k2,k3,k4,k5,k6,k7⟩:=row53' S9.out.c2;obtain ⟨m0,m1,m2,m3,m4,m5,m6,m7⟩:=row53' HB10.out))
    go_ret
    exact ⟨rfl,rH OV.out S9'.out.bw.size S10.out.bw⟩
 ·have g300 : decide ((300 : Int) < ls.length) = false:=by simp;omega
  clear hle XI
  have VX7' : Hid (cU w7 pf0 (.agg #[str X.rule,.int .u8 X.form.op,str X.form.name,.slice xa xn xc,.slice xb xm xd,.int .i64 X.label,.slice xs xsn xsc,.slice xq xqn xqc])):=by
   have:=VX7.out.w
   subst hx0;exact this
  clear hx0
  go_upto_region 18 with (go_at_call 27;refine (C27.out pf0 _ _ _ VX7'.out (GT _)).mono ?_;rintro e w9 ⟨rfl,b9⟩;have S9':=Hd (S7.out.below b9);have HA9:=Hd (HA7.out.keep (aA b9));clear b9)
  clear m0 m1 m2 m3 m4 m5 m6 m7
  rcases TC.out with rfl | ⟨rfl,-,-⟩
  ·go_wp2_with fail
   go_ret
   exact ⟨rfl,S9'.out.bw⟩
  have C46c:=Hd (C46b.out rfl)
  have aln:=HA9.out.len
  have al63:=le63 aln.2.2
  have l63 : an ≤ 9223372036854775807:=by have:=aln.2.1;omega
  obtain rfl : an = LN.length:=aln.1
  clear C46b aln k0 k1 k2 k3 k4 k5 k6 k7
  go_wp2_with fail
  go_loopw [88] (fun u wr=>∃ j : Nat,j ≤ LN.length ∧ u = .int .i64 j ∧ w9 = wr ∧ Hid (∀ i,i < j → ∀ ln,LN[i]? = some ln → ln.length ≤ 16384)) (fun u _=>LN.length - (intOf u).toNat)
  case atStart=>exact ⟨0,Nat.zero_le _,rfl,rfl,fun i hi=>absurd hi (Nat.not_lt_zero i)⟩
  case round =>
   obtain ⟨j,hj,rfl,rfl,hle⟩:=hrel
   by_cases hlt : j < LN.length
   ·obtain ⟨ln,hln⟩ : ∃ ln,LN[j]? = some ln:=⟨_,List.getElem?_eq_getElem hlt⟩
    obtain ⟨ab,ao,rfl,hc⟩:=HA9.out.get (aJ hln)
    have c0:=hc j ln hln
    have HLE:=Hd hle
    have HLN:=Hd hln
    by_cases hb : ln.length ≤ 16384
    ·have gb : decide ((16384 : Int) < ln.length) = false:=by simp;omega
     have HBB:=Hd hb
     clear hc hln hle hb
     go_wp2_with fail
     go_roundw
     case rel=>exact ⟨j + 1,by omega,by go_num,by first | trivial | rfl,fun i hi l2 h2=>by
      rcases Nat.lt_succ_iff_lt_or_eq.1 hi with h | rfl
      ·exact HLE.out i h l2 h2
      ·have:=HLN.out;rw [h2] at this;cases this;exact HBB.out⟩
     case measure=>simp [intOf];omega
    ·have gb : decide ((16384 : Int) < ln.length) = true:=by simp;omega
     clear hc hln hle hb
     go_wp2_with fail
     go_ret
     exact ⟨rfl,S9'.out.bw⟩
   ·obtain rfl : j = LN.length:=by omega
    have ALL : Hid (∀ ln ∈ LN,ln.length ≤ 16384):=fun ln hm=>by
     obtain ⟨i,hi,e⟩:=List.mem_iff_getElem.1 hm
     exact hle.out i hi ln (by rw [List.getElem?_eq_getElem hi,e])
    clear hle
    go_wp2_with (first
     | (go_at_call 115;refine (IC BD.out VB2.out Z82.out).mono ?_;rintro e w12 ⟨rfl,ov⟩;have OV:=Hd ov;clear ov)
     | (go_at_call 27;refine (C27.out p _ _ _ VB1.out.w (HV.out _ S9.out.bw)).mono ?_;rintro e w11 ⟨rfl,b11⟩;have S10:=Hd (S9.out.below b11);have HB11:=Hd (kc b11 HB10.out);have VB2:=Hd (VBH.out.keep (aS (p:=lo w9) (q:=lo w9) fun k h1 h2=>⟨h2,b11.block k h1⟩));have Z82 : Hid (w9.heap.size ≤ w11.heap.size):=Nat.le_trans Z81.out b11.size;clear b11 m0 m1 m2 m3 m4 m5 m6 m7;obtain ⟨m0,m1,m2,m3,m4,m5,m6,m7⟩:=row53' HB11.out)
     | (go_at_call 46;refine (C46c.out _ _ _ _ ALL.out S9'.out.bw HA9.out).mono ?_;rintro e w10 ⟨ba,bb,bs,bq,bn,bc,bm,bd,bsn,bsc,bqn,bqc,rfl,vb,b10⟩;have BA10:=Hd ((Below.refl w10.heap.size w10).alloc (Nat.le_refl _) (.cells #[str p.rule,.int .u8 p.form.op,str p.form.name,.slice ba bn bc,.slice bb bm bd,.int .i64 p.label,.slice bs bsn bsc,.slice bq bqn bqc] 53));have S9:=Hd ((S9'.out.below b10).below BA10.out);have HB10:=Hd (heap_alloc_new w10 (.cells #[str p.rule,.int .u8 p.form.op,str p.form.name,.slice ba bn bc,.slice bb bm bd,.int .i64 p.label,.slice bs bsn bsc,.slice bq bqn bqc] 53));have VBH : Hid (PfB (hide (lo w9) (w10.alloc (.cells #[str p.rule,.int .u8 p.form.op,str p.form.name,.slice ba bn bc,.slice bb bm bd,.int .i64 p.label,.slice bs bsn bsc,.slice bq bqn bqc] 53))) p (.agg #[str p.rule,.int .u8 p.form.op,str p.form.name,.slice ba bn bc,.slice bb bm bd,.int .i64 p.label,.slice bs bsn bsc,.slice bq bqn bqc])):=vb.keep (aS (p:=lo w9) (q:=lo w9) fun k h1 h2=>⟨h2,BA10.out.block k h1⟩);have VB1 : Hid (PfB (w10.alloc (.cells #[str p.rule,.int .u8 p.form.op,str p.form.name,.slice ba bn bc,.slice bb bm bd,.int .i64 p.label,.slice bs bsn bsc,.slice bq bqn bqc] 53)) p (.agg #[str p.rule,.int .u8 p.form.op,str p.form.name,.slice ba bn bc,.slice bb bm bd,.int .i64 p.label,.slice bs bsn bsc,.slice bq bqn bqc])):=VBH.out.keep (kA _ _);have Z81 : Hid (w9.heap.size ≤ (w10.alloc (.cells #[str p.rule,.int .u8 p.form.op,str p.form.name,.slice ba bn bc,.slice bb bm bd,.int .i64 p.label,.slice bs bsn bsc,.slice bq bqn bqc] 53)).heap.size):=Nat.le_trans b10.size BA10.out.size;clear vb b10;obtain ⟨k0,k1,k2,k3,k4,k5,k6,k7⟩:=row53' S9.out.c2;obtain ⟨m0,m1,m2,m3,m4,m5,m6,m7⟩:=row53' HB10.out))
    go_ret
    exact ⟨rfl,rH OV.out S9'.out.bw.size S10.out.bw⟩
 ·have g300 : decide ((300 : Int) < ls.length) = true:=by simp;omega
  clear hgt XI
  have VX7' : Hid (cU w7 pf0 (.agg #[str X.rule,.int .u8 X.form.op,str X.form.name,.slice xa xn xc,.slice xb xm xd,.int .i64 X.label,.slice xs xsn xsc,.slice xq xqn xqc])):=by
   have:=VX7.out.w
   subst hx0;exact this
  clear hx0
  go_upto_region 18 with (go_at_call 27;refine (C27.out pf0 _ _ _ VX7'.out (GT _)).mono ?_;rintro e w9 ⟨rfl,b9⟩;have S9':=Hd (S7.out.below b9);have HA9:=Hd (HA7.out.keep (aA b9));clear b9)
  clear m0 m1 m2 m3 m4 m5 m6 m7
  rcases TC.out with rfl | ⟨rfl,-,-⟩
  ·go_wp2_with fail
   go_ret
   exact ⟨rfl,S9'.out.bw⟩
  have C46c:=Hd (C46b.out rfl)
  have aln:=HA9.out.len
  have al63:=le63 aln.2.2
  have l63 : an ≤ 9223372036854775807:=by have:=aln.2.1;omega
  obtain rfl : an = LN.length:=aln.1
  clear C46b aln k0 k1 k2 k3 k4 k5 k6 k7
  go_wp2_with fail
  go_loopw [88] (fun u wr=>∃ j : Nat,j ≤ LN.length ∧ u = .int .i64 j ∧ w9 = wr ∧ Hid (∀ i,i < j → ∀ ln,LN[i]? = some ln → ln.length ≤ 16384)) (fun u _=>LN.length - (intOf u).toNat)
  case atStart=>exact ⟨0,Nat.zero_le _,rfl,rfl,fun i hi=>absurd hi (Nat.not_lt_zero i)⟩
  case round =>
   obtain ⟨j,hj,rfl,rfl,hle⟩:=hrel
   by_cases hlt : j < LN.length
   ·obtain ⟨ln,hln⟩ : ∃ ln,LN[j]? = some ln:=⟨_,List.getElem?_eq_getElem hlt⟩
    obtain ⟨ab,ao,rfl,hc⟩:=HA9.out.get (aJ hln)
    have c0:=hc j ln hln
    have HLE:=Hd hle
    have HLN:=Hd hln
    by_cases hb : ln.length ≤ 16384
    ·have gb : decide ((16384 : Int) < ln.length) = false:=by simp;omega
     have HBB:=Hd hb
     clear hc hln hle hb
     go_wp2_with fail
     go_roundw
     case rel=>exact ⟨j + 1,by omega,by go_num,by first | trivial | rfl,fun i hi l2 h2=>by
      rcases Nat.lt_succ_iff_lt_or_eq.1 hi with h | rfl
      ·exact HLE.out i h l2 h2
      ·have:=HLN.out;rw [h2] at this;cases this;exact HBB.out⟩
     case measure=>simp [intOf];omega
    ·have gb : decide ((16384 : Int) < ln.length) = true:=by simp;omega
     clear hc hln hle hb
     go_wp2_with fail
     go_ret
     exact ⟨rfl,S9'.out.bw⟩
   ·obtain rfl : j = LN.length:=by omega
    have ALL : Hid (∀ ln ∈ LN,ln.length ≤ 16384):=fun ln hm=>by
     obtain ⟨i,hi,e⟩:=List.mem_iff_getElem.1 hm
     exact hle.out i hi ln (by rw [List.getElem?_eq_getElem hi,e])
    clear hle
    go_wp2_with (first
     | (go_at_call 115;refine (IC BD.out VB2.out Z82.out).mono ?_;rintro e w12 ⟨rfl,ov⟩;have OV:=Hd ov;clear ov)
     | (go_at_call 27;refine (C27.out p _ _ _ VB1.out.w (HV.out _ S9.out.bw)).mono ?_;rintro e w11 ⟨rfl,b11⟩;have S10:=Hd (S9.out.below b11);have HB11:=Hd (kc b11 HB10.out);have VB2:=Hd (VBH.out.keep (aS (p:=lo w9) (q:=lo w9) fun k h1 h2=>⟨h2,b11.block k h1⟩));have Z82 : Hid (w9.heap.size ≤ w11.heap.size):=Nat.le_trans Z81.out b11.size;clear b11 m0 m1 m2 m3 m4 m5 m6 m7;obtain ⟨m0,m1,m2,m3,m4,m5,m6,m7⟩:=row53' HB11.out)
     | (go_at_call 46;refine (C46c.out _ _ _ _ ALL.out S9'.out.bw HA9.out).mono ?_;rintro e w10 ⟨ba,bb,bs,bq,bn,bc,bm,bd,bsn,bsc,bqn,bqc,rfl,vb,b10⟩;have BA10:=Hd ((Below.refl w10.heap.size w10).alloc (Nat.le_refl _) (.cells #[str p.rule,.int .u8 p.form.op,str p.form.name,.slice ba bn bc,.slice bb bm bd,.int .i64 p.label,.slice bs bsn bsc,.slice bq bqn bqc] 53));have S9:=Hd ((S9'.out.below b10).below BA10.out);have HB10:=Hd (heap_alloc_new w10 (.cells #[str p.rule,.int .u8 p.form.op,str p.form.name,.slice ba bn bc,.slice bb bm bd,.int .i64 p.label,.slice bs bsn bsc,.slice bq bqn bqc] 53));have VBH : Hid (PfB (hide (lo w9) (w10.alloc (.cells #[str p.rule,.int .u8 p.form.op,str p.form.name,.slice ba bn bc,.slice bb bm bd,.int .i64 p.label,.slice bs bsn bsc,.slice bq bqn bqc] 53))) p (.agg #[str p.rule,.int .u8 p.form.op,str p.form.name,.slice ba bn bc,.slice bb bm bd,.int .i64 p.label,.slice bs bsn bsc,.slice bq bqn bqc])):=vb.keep (aS (p:=lo w9) (q:=lo w9) fun k h1 h2=>⟨h2,BA10.out.block k h1⟩);have VB1 : Hid (PfB (w10.alloc (.cells #[str p.rule,.int .u8 p.form.op,str p.form.name,.slice ba bn bc,.slice bb bm bd,.int .i64 p.label,.slice bs bsn bsc,.slice bq bqn bqc] 53)) p (.agg #[str p.rule,.int .u8 p.form.op,str p.form.name,.slice ba bn bc,.slice bb bm bd,.int .i64 p.label,.slice bs bsn bsc,.slice bq bqn bqc])):=VBH.out.keep (kA _ _);have Z81 : Hid (w9.heap.size ≤ (w10.alloc (.cells #[str p.rule,.int .u8 p.form.op,str p.form.name,.slice ba bn bc,.slice bb bm bd,.int .i64 p.label,.slice bs bsn bsc,.slice bq bqn bqc] 53)).heap.size):=Nat.le_trans b10.size BA10.out.size;clear vb b10;obtain ⟨k0,k1,k2,k3,k4,k5,k6,k7⟩:=row53' S9.out.c2;obtain ⟨m0,m1,m2,m3,m4,m5,m6,m7⟩:=row53' HB10.out))
    go_ret
    exact ⟨rfl,rH OV.out S9'.out.bw.size S10.out.bw⟩
open Go Go.RowKit Go.Sort Ly
set_option maxHeartbeats 16000000 in
theorem describeProofs_c (p : Pf) (hz : p.sz) (ls : List Bs) (hlb : ls.length * 16 ≤ 140737488351232) (x : Value) (la : Option Addr) (N lc : Nat) (w : World) (ht : Tabs w) (hp : iK w) (hx : cU w p x) (hL : aU w ls (.slice la N lc)) :
  Calls Tryz.prog 9 #[x,.slice la N lc] w (Rt (.bool true) w):=by
 have hx0:=hx
 obtain ⟨pa,pn,pc,pb,pm,pd,ps,psn,psc,pq,pqn,pqc,rfl,-⟩:=hx0
 have hN:=hL.len
 have N63:=le63 hN.2.2
 obtain rfl : N = ls.length:=hN.1
 have HB : Hid (Below w.heap.size w (w.alloc (.cells #[str p.rule,.int .u8 p.form.op,str p.form.name,.slice pa pn pc,.slice pb pm pd,.int .i64 p.label,.slice ps psn psc,.slice pq pqn pqc] 53))):=bnew
 have HG:=Hd (heap_alloc_new w (.cells #[str p.rule,.int .u8 p.form.op,str p.form.name,.slice pa pn pc,.slice pb pm pd,.int .i64 p.label,.slice ps psn psc,.slice pq pqn pqc] 53))
 have HL : Hid (∀ W,Below w.heap.size w W → aU W ls (.slice la ls.length lc)):=fun W hW=>hL.keep (aA hW)
 have C14 : Hid (∀ W,Below w.heap.size w W → Calls Tryz.prog 14 #[] W (Rt (.bool true) W)):=fun W hW =>
  awake_c W (ht.r.keep (aA hW)) (hp.below hW) (ht.m.keep (aA hW))
 have C41:=Hd (GJ p (w.alloc (.cells #[str p.rule,.int .u8 p.form.op,str p.form.name,.slice pa pn pc,.slice pb pm pd,.int .i64 p.label,.slice ps psn psc,.slice pq pqn pqc] 53)) 60 _ (hx.keep (aA HB.out)) (by decide) (by decide))
 have C42 : Hid (p.lim → p.steps ≤ 60 → (ls.length ≤ 300 → ∀ x ∈ ls,x.length ≤ 500) → ∀ W,Below w.heap.size w W → Calls Tryz.prog 42 #[.agg #[str p.rule,.int .u8 p.form.op,str p.form.name,.slice pa pn pc,.slice pb pm pd,.int .i64 p.label,.slice ps psn psc,.slice pq pqn pqc],.slice la ls.length lc] W (Rt (.bool true) W)):=fun h1 h2 h3 W hW =>
  proofs_c p hz h1 h2 ls h3 hlb _ la ls.length lc W (ht.keep (aA hW)) (hp.below hW) (hx.keep (aA hW)) (HL.out W hW)
 obtain ⟨k0,k1,k2,k3,k4,k5,k6,k7⟩:=row53' HG.out
 have l63 : ls.length ≤ 9223372036854775807:=by omega
 clear hx hL hN ht hp hz hlb
 go_enter Tryz.func9,Tryz.ntmps9
 by_cases t1 : ls.length ≤ 80
 ·have g1 : decide ((80 : Int) < (ls.length : Int)) = false:=by simp;omega
  go_wp2_with (go_at_call 41;refine C41.out.mono ?_;rintro e w1 ⟨z,rfl,b1,h1,h2,h3⟩;have B1:=Hd (aB HB.out b1);have R1:=Hd (kc b1 HG.out);have H3':=Hd h3;clear b1 h3 C41 k0 k1 k2 k3 k4 k5 k6 k7;obtain ⟨zb,hzb⟩ : ∃ b,decide (z < 0) = b:=⟨_,rfl⟩;cases zb)
  ·have H3:=Hd (H3'.out.out (by simpa using hzb))
   clear H3'
   have hz0 : 0 ≤ z:=by simpa using hzb
   go_loopw [22] (fun u wr=>∃ j : Nat,j ≤ ls.length ∧ u = .int .i64 j ∧ w1 = wr ∧ Hid (∀ i,i < j → ∀ ln,ls[i]? = some ln → ln.length ≤ 500)) (fun u _=>ls.length - (intOf u).toNat)
   case atStart=>exact ⟨0,Nat.zero_le _,rfl,rfl,fun i hi=>absurd hi (Nat.not_lt_zero i)⟩
   case round =>
    obtain ⟨j,hj,rfl,rfl,hle⟩:=hrel
    by_cases hlt : j < ls.length
    ·obtain ⟨ln,hln⟩ : ∃ ln,ls[j]? = some ln:=⟨_,List.getElem?_eq_getElem hlt⟩
     obtain ⟨ab,ao,rfl,hc⟩:=(HL.out _ B1.out).get (aJ hln)
     have c0:=hc j ln hln
     have HLE:=Hd hle
     have HLN:=Hd hln
     by_cases hb : ln.length ≤ 500
     ·have gb : decide ((500 : Int) < ln.length) = false:=by simp;omega
      have HBB:=Hd hb
      clear hc hln hle hb
      go_wp2_with fail
      go_roundw
      case rel=>exact ⟨j + 1,by omega,by go_num,by first | trivial | rfl,fun i hi l2 h2=>by
       rcases Nat.lt_succ_iff_lt_or_eq.1 hi with h | rfl
       ·exact HLE.out i h l2 h2
       ·have:=HLN.out;rw [h2] at this;cases this;exact HBB.out⟩
      case measure=>simp [intOf];omega
     ·have gb : decide ((500 : Int) < ln.length) = true:=by simp;omega
      clear hc hln hle hb
      go_wp2_with (go_at_call 14;refine (C14.out _ B1.out).mono ?_;rintro e w4 ⟨rfl,b4⟩;have B4:=Hd (aB B1.out b4);clear b4)
      go_ret
      exact ⟨rfl,B4.out⟩
    ·obtain rfl : j = ls.length:=by omega
     have C42':=Hd (C42.out H3.out.1 (by have:=H3.out.2;omega) (fun _ x hx=>by
      obtain ⟨i,hi,e⟩:=List.mem_iff_getElem.1 hx
      exact hle.out i hi x (by rw [List.getElem?_eq_getElem hi,e])) w1 B1.out)
     obtain ⟨k0,k1,k2,k3,k4,k5,k6,k7⟩:=row53' R1.out
     clear hle
     go_wp2_with (first
      | (go_at_call 14;refine (C14.out _ B5.out).mono ?_;rintro e w4 ⟨rfl,b4⟩;have B4:=Hd (aB B5.out b4);clear b4)
      | (go_at_call 42;refine C42'.out.mono ?_;rintro e w5 ⟨rfl,b5⟩;have B5:=Hd (aB B1.out b5);clear b5))
     go_ret
     exact ⟨rfl,B4.out⟩
  ·go_wp2_with (go_at_call 14;refine (C14.out _ B1.out).mono ?_;rintro e w4 ⟨rfl,b4⟩;have B4:=Hd (aB B1.out b4);clear b4)
   go_ret
   exact ⟨rfl,B4.out⟩
 ·have g1 : decide ((80 : Int) < (ls.length : Int)) = true:=by simp;omega
  by_cases t2 : ls.length ≤ 300
  ·have g2 : decide ((ls.length : Int) ≤ 300) = true:=by simp;omega
   go_wp2_with (go_at_call 41;refine C41.out.mono ?_;rintro e w1 ⟨z,rfl,b1,h1,h2,h3⟩;have B1:=Hd (aB HB.out b1);have R1:=Hd (kc b1 HG.out);have H3':=Hd h3;clear b1 h3 C41 k0 k1 k2 k3 k4 k5 k6 k7;obtain ⟨zb,hzb⟩ : ∃ b,decide (z < 0) = b:=⟨_,rfl⟩;cases zb)
   all_goals
    go_wp2_with (go_at_call 14;refine (C14.out _ B1.out).mono ?_;rintro e w4 ⟨rfl,b4⟩;have B4:=Hd (aB B1.out b4);clear b4)
    go_ret
    exact ⟨rfl,B4.out⟩
  ·have g2 : decide ((ls.length : Int) ≤ 300) = false:=by simp;omega
   go_wp2_with (go_at_call 41;refine C41.out.mono ?_;rintro e w1 ⟨z,rfl,b1,h1,h2,h3⟩;have B1:=Hd (aB HB.out b1);have R1:=Hd (kc b1 HG.out);have H3':=Hd h3;clear b1 h3 C41 k0 k1 k2 k3 k4 k5 k6 k7;obtain ⟨zb,hzb⟩ : ∃ b,decide (z < 0) = b:=⟨_,rfl⟩;cases zb)
   ·have H3:=Hd (H3'.out.out (by simpa using hzb))
    clear H3'
    have hz0 : 0 ≤ z:=by simpa using hzb
    go_loopw [22] (fun u wr=>∃ j : Nat,j ≤ ls.length ∧ u = .int .i64 j ∧ w1 = wr ∧ Hid (∀ i,i < j → ∀ ln,ls[i]? = some ln → ln.length ≤ 500)) (fun u _=>ls.length - (intOf u).toNat)
    case atStart=>exact ⟨0,Nat.zero_le _,rfl,rfl,fun i hi=>absurd hi (Nat.not_lt_zero i)⟩
    case round =>
     obtain ⟨j,hj,rfl,rfl,hle⟩:=hrel
     by_cases hlt : j < ls.length
     ·obtain ⟨ln,hln⟩ : ∃ ln,ls[j]? = some ln:=⟨_,List.getElem?_eq_getElem hlt⟩
      obtain ⟨ab,ao,rfl,hc⟩:=(HL.out _ B1.out).get (aJ hln)
      have c0:=hc j ln hln
      have HLE:=Hd hle
      have HLN:=Hd hln
      by_cases hb : ln.length ≤ 500
      ·have gb : decide ((500 : Int) < ln.length) = false:=by simp;omega
       have HBB:=Hd hb
       clear hc hln hle hb
       go_wp2_with fail
       go_roundw
       case rel=>exact ⟨j + 1,by omega,by go_num,by first | trivial | rfl,fun i hi l2 h2=>by
        rcases Nat.lt_succ_iff_lt_or_eq.1 hi with h | rfl
        ·exact HLE.out i h l2 h2
        ·have:=HLN.out;rw [h2] at this;cases this;exact HBB.out⟩
       case measure=>simp [intOf];omega
      ·have gb : decide ((500 : Int) < ln.length) = true:=by simp;omega
       clear hc hln hle hb
       go_wp2_with (go_at_call 14;refine (C14.out _ B1.out).mono ?_;rintro e w4 ⟨rfl,b4⟩;have B4:=Hd (aB B1.out b4);clear b4)
       go_ret
       exact ⟨rfl,B4.out⟩
     ·obtain rfl : j = ls.length:=by omega
      have C42':=Hd (C42.out H3.out.1 (by have:=H3.out.2;omega) (fun _ x hx=>by
       obtain ⟨i,hi,e⟩:=List.mem_iff_getElem.1 hx
       exact hle.out i hi x (by rw [List.getElem?_eq_getElem hi,e])) w1 B1.out)
      obtain ⟨k0,k1,k2,k3,k4,k5,k6,k7⟩:=row53' R1.out
      clear hle
      go_wp2_with (first
       | (go_at_call 14;refine (C14.out _ B5.out).mono ?_;rintro e w4 ⟨rfl,b4⟩;have B4:=Hd (aB B5.out b4);clear b4)
       | (go_at_call 42;refine C42'.out.mono ?_;rintro e w5 ⟨rfl,b5⟩;have B5:=Hd (aB B1.out b5);clear b5))
      go_ret
      exact ⟨rfl,B4.out⟩
   ·go_wp2_with (go_at_call 14;refine (C14.out _ B1.out).mono ?_;rintro e w4 ⟨rfl,b4⟩;have B4:=Hd (aB B1.out b4);clear b4)
    go_ret
    exact ⟨rfl,B4.out⟩
end Go.Proofs.YtcandidgaegghaaGreatDoor
namespace Ly
mutual
def Tm.fits : Tm → Prop
 | .mk _ n l=>n.length ≤ 140737488351232 ∧ uP l
def uP : List Tm → Prop
 | []=>True
 | t :: ts=>t.fits ∧ uP ts
end
mutual
def Fm.fits : Fm → Prop
 | .mk _ n l sub=>n.length ≤ 140737488351232 ∧ uP l ∧ xC sub
def xC : List Fm → Prop
 | []=>True
 | f :: fs=>f.fits ∧ xC fs
end
theorem rR : ∀ l : List Tm,uP l ↔ ∀ t ∈ l,t.fits
 | []=>by simp [uP]
 | t :: ts=>by simp [uP,rR ts]
theorem xD : ∀ l : List Fm,xC l ↔ ∀ t ∈ l,t.fits
 | []=>by simp [xC]
 | t :: ts=>by simp [xC,xD ts]
end Ly
namespace Go.Proofs.YtcandidgaegghaaGreatDoor
open Go Go.ChangeShapes Go.WideShapes Go.ChangeAt Go.RowKit Ly
section
variable {H : Type} {enc : TypeId × Value → H} {W : World}
def gH (t : TypeId) (d : DataW H) : Prop:=∀ n ∈ DataW.weights Tryz.prog t d,n ≤ 140737488351232
theorem pS {e : TypeId} : ∀ {l : List (DataW H)} {d : DataW H},d ∈ l → ∀ n ∈ d.weights Tryz.prog e,n ∈ DataW.weightsAll Tryz.prog e l
 | x :: l,d,hd,n,hn=>by
  simp only [DataW.weightsAll,List.mem_append]
  rcases List.mem_cons.1 hd with rfl | hd
  ·exact .inl hn
  ·exact .inr (pS hd n hn)
theorem jN {α : Type} [Inhabited α] {k : Nat} {one : α → List D} {all : List α → List D} (hall : ∀ l,(all l).length = l.length * k) (hone : ∀ x,(one x).length = k)
  (hget : ∀ (l : List α) (i : Nat) (x : α),l[i]? = some x → ∀ j,j < k → (all l)[i * k + j]? = (one x)[j]?) {P : α → Prop} {t e : TypeId} {fuel : Nat} {cs : List Value} {y : DataW H × List MemPlace}
  (ht : Tryz.prog.underlying t = some (.slice e)) (hc : Tryz.prog.cellsOf e = k) (hk : 0 < k) (hy : gH t y.1)
  (elem : ∀ n cs y,n < fuel → cs.length = k → gH e y.1 → DataW.trod enc Tryz.prog W 0 (fun _=>true) true n e cs = some y → ∃ x : α,P x ∧ wN W cs (one x))
  (h : DataW.trod enc Tryz.prog W 0 (fun _=>true) true fuel t cs = some y) : ∃ (l : List α) (a : Option Addr) (n c : Nat),cs = [.slice a n c] ∧ (∀ x ∈ l,P x) ∧ At W (.sl k l.length (all l)) (.slice a n c):=by
 rcases DataW.trod_slice ht h with ⟨rfl,-⟩ | ⟨ad,len,cap,elems,rest,n,rfl,rfl,rfl,-,hlc,hcm,hel,hx,-⟩
 ·refine ⟨[],none,0,0,rfl,by simp, ?_⟩
  have : all [] = []:=List.eq_nil_of_length_eq_zero (by rw [hall];simp)
  rw [this]
  exact At.sl_nil (Nat.zero_le _)
 ·have hy2 : ∀ z ∈ elems,gH e z.1:=fun z hz n hn=>hy n (by
   simp only [DataW.weights,ht,List.mem_cons,List.mem_append]
   exact .inr (.inl (pS (List.mem_map_of_mem hz) n hn)))
  obtain ⟨f,hF⟩:=Go.Deep.choose_lt (α:=α) (n:=len) (p:=fun i x=>P x ∧ ∀ (j : Nat) (d : D),(one x)[j]? = some d → ∃ u,W.cell? (ad.add (i * k + j)) = some u ∧ At W d u) fun i hi=>by
   have h1:=hx i hi
   rw [List.getElem?_eq_getElem (show i < elems.length by omega)] at h1
   obtain ⟨cs',h2,h3⟩:=Option.bind_eq_some_iff.1 h1
   obtain ⟨_,h4,h5⟩:=World.cells?_some h2
   rw [hc] at h4 h5
   obtain ⟨x,h6,h7⟩:=elem n cs' _ (Nat.lt_succ_self n) h4 (hy2 _ (List.getElem_mem _)) h3
   refine ⟨x,h6,fun j d hd=>?_⟩
   obtain ⟨u,h8,h9⟩:=h7 j d hd
   have hj : j < k:=by rw [← hone x];exact (List.getElem?_eq_some_iff.1 hd).1
   have h10:=h5 j hj
   rw [h8,Go.Deep.add_add] at h10
   exact ⟨u,h10,h9⟩
  refine ⟨(List.range len).map f,_,_,_,rfl, ?_, ?_⟩
  ·intro x hm
   obtain ⟨i,hi,rfl⟩:=List.mem_map.1 hm
   exact (hF i (List.mem_range.1 hi)).1
  ·have hl : ((List.range len).map f).length = len:=by simp
   rw [hl]
   rcases Nat.eq_zero_or_pos len with h0 | h0
   ·subst h0
    have : all ((List.range 0).map f) = []:=List.eq_nil_of_length_eq_zero (by rw [hall];simp)
    rw [this]
    exact At.sl_nil hcm
   ·obtain ⟨ab,ao,spot⟩:=ad
    have hspot : spot = none:=by
     obtain ⟨u,h1,_⟩:=(hF 0 h0).2 0 _ (List.getElem?_eq_getElem (show 0 < (one (f 0)).length by rw [hone];exact hk))
     simpa [Addr.add] using World.cell?_spot h1
    subst hspot
    refine At.sl_mk (by rw [hall,hl]) hlc hcm fun j d hd=>?_
    have hj : j < len * k:=by
     have:=(List.getElem?_eq_some_iff.1 hd).1
     rwa [hall,hl] at this
    have hi : j / k < len:=Nat.div_lt_of_lt_mul (by rwa [Nat.mul_comm])
    have hjk : j / k * k + j % k = j:=by rw [Nat.mul_comm];exact Nat.div_add_mod j k
    have h1:=hget ((List.range len).map f) (j / k) (f (j / k)) (by rw [List.getElem?_map,List.getElem?_range hi];rfl) (j % k) (Nat.mod_lt _ hk)
    rw [hjk,hd] at h1
    obtain ⟨u,h2,h3⟩:=(hF _ hi).2 _ _ h1.symm
    rw [hjk,Addr.add_lit] at h2
    exact ⟨u,h2,h3⟩
theorem wI {fuel : Nat} {cs : List Value} {y : DataW H × List MemPlace} (hy : gH 9 y.1) (h : DataW.trod enc Tryz.prog W 0 (fun _=>true) true fuel 9 cs = some y) : ∃ s : Bs,cs = [str s] ∧ s.length ≤ maxLen ∧ s.length ≤ 140737488351232:=by
 obtain ⟨s,rfl,rfl,hs⟩:=DataW.trod_string Tryz.underlying9 h
 refine ⟨s.data.toList, ?_, ?_, ?_⟩
 ·simp
 ·simpa using hs
 ·exact hy _ (by simp [DataW.weights])
theorem list3 {α : Type} {xs : List α} {a b c : α} (h : xs.length = 3) (h0 : xs[0]? = some a) (h1 : xs[1]? = some b) (h2 : xs[2]? = some c) : xs = [a,b,c]:=by
 match xs,h with
 | [x,y,z],_=>simp at h0 h1 h2;simp [h0,h1,h2]
theorem list4 {α : Type} {xs : List α} {a b c d : α} (h : xs.length = 4) (h0 : xs[0]? = some a) (h1 : xs[1]? = some b) (h2 : xs[2]? = some c) (h3 : xs[3]? = some d) : xs = [a,b,c,d]:=by
 match xs,h with
 | [x,y,z,w],_=>simp at h0 h1 h2 h3;simp [h0,h1,h2,h3]
theorem tm_fit (fuel : Nat) : ∀ (cs : List Value) (y : DataW H × List MemPlace),gH 95 y.1 → DataW.trod enc Tryz.prog W 0 (fun _=>true) true fuel 95 cs = some y → ∃ t : Tm,(t.sz ∧ t.fits) ∧ wN W cs t.ds:=by
 induction fuel using Nat.strongRecOn with
 | _ fuel ih =>
 intro cs y hy h
 obtain ⟨xs,n,rfl,rfl,hl,hxl,hall⟩:=DataW.trod_struct Tryz.underlying95 h
 have hx : ∀ i,i < 3 → ∃ z,xs[i]? = some z:=fun i hi=>⟨_,List.getElem?_eq_getElem (show i < xs.length by rw [hxl];exact hi)⟩
 obtain ⟨z0,g0⟩:=hx 0 (by omega)
 obtain ⟨z1,g1⟩:=hx 1 (by omega)
 obtain ⟨z2,g2⟩:=hx 2 (by omega)
 have e:=list3 hxl g0 g1 g2
 have hw : DataW.weights Tryz.prog 95 (DataW.agg (xs.map (·.1))) = z0.1.weights Tryz.prog 4 ++ (z1.1.weights Tryz.prog 9 ++ (z2.1.weights Tryz.prog 22 ++ [])):=by
  rw [e];simp [DataW.weights,DataW.weightsEach,Tryz.underlying95]
 have y1 : gH 9 z1.1:=fun n hn=>hy n (by show n ∈ DataW.weights Tryz.prog 95 _;rw [hw];simp [hn])
 have y2 : gH 22 z2.1:=fun n hn=>hy n (by show n ∈ DataW.weights Tryz.prog 95 _;rw [hw];simp [hn])
 have h0 : DataW.trod enc Tryz.prog W 0 (fun _=>true) true n 4 ((cs.drop 0).take (Tryz.prog.cellsOf 4)) = _:=(hall 0 _ rfl).trans g0
 have h1 : DataW.trod enc Tryz.prog W 0 (fun _=>true) true n 9 ((cs.drop 1).take (Tryz.prog.cellsOf 9)) = _:=(hall 1 _ rfl).trans g1
 have h2 : DataW.trod enc Tryz.prog W 0 (fun _=>true) true n 22 ((cs.drop 2).take (Tryz.prog.cellsOf 22)) = _:=(hall 2 _ rfl).trans g2
 rw [GY] at h0
 rw [DF] at h1
 rw [IW] at h2
 obtain ⟨b,e0,-⟩:=DataW.trod_bool Tryz.underlying4 h0
 obtain ⟨s,e1,hs,hs2⟩:=wI y1 h1
 obtain ⟨l,a,m,c,e2,hP,hA⟩:=jN (k:=3) (one:=Tm.ds) (all:=cC) (P:=fun t=>t.sz ∧ t.fits) mY Tm.ds_length iM Tryz.underlying22 IZ (by decide) y2 (fun n' cs' y' hn _ hy' h'=>ih n' (by omega) cs' y' hy' h') h2
 refine ⟨.mk b s l,⟨⟨hs,(lA l).2 fun x hx=>(hP x hx).1⟩,⟨hs2,(rR l).2 fun x hx=>(hP x hx).2⟩⟩,fun j d hd=>?_⟩
 rw [NU] at hd
 rcases (show j = 0 ∨ j = 1 ∨ j = 2 ∨ 3 ≤ j by omega) with rfl | rfl | rfl | h3
 ·cases hd;exact ⟨_,cell_of_one e0,rfl⟩
 ·cases hd;exact ⟨_,cell_of_one e1,rfl⟩
 ·cases hd;exact ⟨_,cell_of_one e2,hA⟩
 ·rw [List.getElem?_eq_none (by simpa using h3)] at hd;cases hd
theorem fm_fit (fuel : Nat) : ∀ (cs : List Value) (y : DataW H × List MemPlace),gH 25 y.1 → DataW.trod enc Tryz.prog W 0 (fun _=>true) true fuel 25 cs = some y → ∃ t : Fm,(t.sz ∧ t.fits) ∧ wN W cs t.ds:=by
 induction fuel using Nat.strongRecOn with
 | _ fuel ih =>
 intro cs y hy h
 obtain ⟨xs,n,rfl,rfl,hl,hxl,hall⟩:=DataW.trod_struct Tryz.underlying25 h
 have hx : ∀ i,i < 4 → ∃ z,xs[i]? = some z:=fun i hi=>⟨_,List.getElem?_eq_getElem (show i < xs.length by rw [hxl];exact hi)⟩
 obtain ⟨z0,g0⟩:=hx 0 (by omega)
 obtain ⟨z1,g1⟩:=hx 1 (by omega)
 obtain ⟨z2,g2⟩:=hx 2 (by omega)
 obtain ⟨z3,g3⟩:=hx 3 (by omega)
 have e:=list4 hxl g0 g1 g2 g3
 have hw : DataW.weights Tryz.prog 25 (DataW.agg (xs.map (·.1))) = z0.1.weights Tryz.prog 5 ++ (z1.1.weights Tryz.prog 9 ++ (z2.1.weights Tryz.prog 22 ++ (z3.1.weights Tryz.prog 23 ++ []))):=by
  rw [e];simp [DataW.weights,DataW.weightsEach,Tryz.underlying25]
 have y1 : gH 9 z1.1:=fun n hn=>hy n (by show n ∈ DataW.weights Tryz.prog 25 _;rw [hw];simp [hn])
 have y2 : gH 22 z2.1:=fun n hn=>hy n (by show n ∈ DataW.weights Tryz.prog 25 _;rw [hw];simp [hn])
 have y3 : gH 23 z3.1:=fun n hn=>hy n (by show n ∈ DataW.weights Tryz.prog 25 _;rw [hw];simp [hn])
 have h0 : DataW.trod enc Tryz.prog W 0 (fun _=>true) true n 5 ((cs.drop 0).take (Tryz.prog.cellsOf 5)) = _:=(hall 0 _ rfl).trans g0
 have h1 : DataW.trod enc Tryz.prog W 0 (fun _=>true) true n 9 ((cs.drop 1).take (Tryz.prog.cellsOf 9)) = _:=(hall 1 _ rfl).trans g1
 have h2 : DataW.trod enc Tryz.prog W 0 (fun _=>true) true n 22 ((cs.drop 2).take (Tryz.prog.cellsOf 22)) = _:=(hall 2 _ rfl).trans g2
 have h3 : DataW.trod enc Tryz.prog W 0 (fun _=>true) true n 23 ((cs.drop 3).take (Tryz.prog.cellsOf 23)) = _:=(hall 3 _ rfl).trans g3
 rw [cells5] at h0
 rw [DF] at h1
 rw [IW] at h2
 rw [cells23] at h3
 obtain ⟨op,e0,-,hw'⟩:=DataW.trod_int Tryz.underlying5 h0
 have hb:=bounds_u8 hw'
 obtain ⟨s,e1,hs,hs2⟩:=wI y1 h1
 obtain ⟨l,a,m,c,e2,hP,hA⟩:=jN (k:=3) (one:=Tm.ds) (all:=cC) (P:=fun t=>t.sz ∧ t.fits) mY Tm.ds_length iM Tryz.underlying22 IZ (by decide) y2 (fun n' cs' y' hn _ hy' h'=>tm_fit n' cs' y' hy' h') h2
 obtain ⟨l',a',m',c',e3,hP',hA'⟩:=jN (k:=4) (one:=Fm.ds) (all:=cH) (P:=fun t=>t.sz ∧ t.fits) pV Fm.ds_length gW Tryz.underlying23 IX (by decide) y3 (fun n' cs' y' hn _ hy' h'=>ih n' (by omega) cs' y' hy' h') h3
 refine ⟨.mk op s l l',⟨⟨⟨hb.1,by omega⟩,hs,(lA l).2 fun x hx=>(hP x hx).1,(pW l').2 fun x hx=>(hP' x hx).1⟩,⟨hs2,(rR l).2 fun x hx=>(hP x hx).2,(xD l').2 fun x hx=>(hP' x hx).2⟩⟩,fun j d hd=>?_⟩
 rw [KX] at hd
 rcases (show j = 0 ∨ j = 1 ∨ j = 2 ∨ j = 3 ∨ 4 ≤ j by omega) with rfl | rfl | rfl | rfl | h3
 ·cases hd;exact ⟨_,cell_of_one e0,rfl⟩
 ·cases hd;exact ⟨_,cell_of_one e1,rfl⟩
 ·cases hd;exact ⟨_,cell_of_one e2,hA⟩
 ·cases hd;exact ⟨_,cell_of_one e3,hA'⟩
 ·rw [List.getElem?_eq_none (by simpa using h3)] at hd;cases hd
end
open Go Go.ChangeShapes Go.WideShapes Go.ChangeAt Go.RowKit Ly
theorem xR {α : Type} (f : α → D) (l : List α) : (l.map f).length = l.length * 1:=by simp
theorem xQ {α : Type} (f : α → D) (l : List α) (i : Nat) (x : α) (h : l[i]? = some x) (j : Nat) (hj : j < 1) : (l.map f)[i * 1 + j]? = ([f x] : List D)[j]?:=by
 obtain rfl : j = 0:=by omega
 simp [h]
theorem yB : ∀ l : List Pf,(cX l).length = l.length * 8
 | []=>rfl
 | p :: ps=>by have:=yB ps;simp only [cX,List.length_append,Pf.ds_length,List.length_cons,this];omega
instance : Inhabited Pf:=⟨.mk [] (.mk 0 [] [] []) 0 [] []⟩
theorem cells29p : Tryz.prog.cellsOf 29 = 1:=by kernel_rfl
theorem cells50p : Tryz.prog.cellsOf 50 = 1:=by kernel_rfl
theorem cells51p : Tryz.prog.cellsOf 51 = 1:=by kernel_rfl
theorem EV : Tryz.prog.cellsOf 53 = 8:=by kernel_rfl
theorem IY : Tryz.prog.cellsOf 3 = 1:=by kernel_rfl
theorem bytes9p : Tryz.prog.bytesOf 9 = 16:=by kernel_rfl
theorem list5 {α : Type} {xs : List α} {a b c d e : α} (h : xs.length = 5) (h0 : xs[0]? = some a) (h1 : xs[1]? = some b) (h2 : xs[2]? = some c) (h3 : xs[3]? = some d) (h4 : xs[4]? = some e) : xs = [a,b,c,d,e]:=by
 match xs,h with
 | [x0,x1,x2,x3,x4],_=>simp_all
section
variable {H : Type} {enc : TypeId × Value → H} {W : World}
theorem slice_weightP {t e : TypeId} {fuel : Nat} {cs : List Value} {y : DataW H × List MemPlace} (ht : Tryz.prog.underlying t = some (.slice e)) (hy : gH t y.1)
  (h : DataW.trod enc Tryz.prog W 0 (fun _=>true) true fuel t cs = some y) : ∃ a n c,cs = [.slice a n c] ∧ n * Tryz.prog.bytesOf e ≤ 140737488351232:=by
 rcases DataW.trod_slice ht h with ⟨rfl,-⟩ | ⟨ad,len,cap,elems,rest,n,rfl,rfl,rfl,-,hlc,hcm,hel,hx,-⟩
 ·exact ⟨none,0,0,rfl,by simp⟩
 ·refine ⟨_,_,_,rfl, ?_⟩
  have:=hy _ (by
   simp only [DataW.weights,ht]
   exact List.mem_cons_self)
  have h2:=Nat.mul_le_mul_right (Tryz.prog.bytesOf e) (show elems.length ≤ (elems.map (·.1)).length + (rest.map (·.1)).length by simp)
  rw [hel] at h2
  exact Nat.le_trans h2 this
theorem int_lieP {n : Nat} {cs : List Value} {y : DataW H × List MemPlace} (h : DataW.trod enc Tryz.prog W 0 (fun _=>true) true n 3 cs = some y) : ∃ x : Int,True ∧ wN W cs [intD x]:=by
 obtain ⟨x,rfl,-,-⟩:=DataW.trod_int Tryz.underlying3 h
 refine ⟨x,trivial,fun j d hd=>?_⟩
 rcases (show j = 0 ∨ 1 ≤ j by omega) with rfl | h3
 ·cases hd;exact ⟨_,rfl,rfl⟩
 ·rw [List.getElem?_eq_none (by simpa using h3)] at hd;cases hd
theorem str_lieP {n : Nat} {cs : List Value} {y : DataW H × List MemPlace} (hy : gH 9 y.1) (h : DataW.trod enc Tryz.prog W 0 (fun _=>true) true n 9 cs = some y) : ∃ x : Bs,x.length ≤ maxLen ∧ wN W cs [strD x]:=by
 obtain ⟨s,rfl,hs,-⟩:=wI hy h
 refine ⟨s,hs,fun j d hd=>?_⟩
 rcases (show j = 0 ∨ 1 ≤ j by omega) with rfl | h3
 ·cases hd;exact ⟨_,rfl,rfl⟩
 ·rw [List.getElem?_eq_none (by simpa using h3)] at hd;cases hd
theorem ms_lieP {n : Nat} {cs : List Value} {y : DataW H × List MemPlace} (hy : gH 29 y.1) (h : DataW.trod enc Tryz.prog W 0 (fun _=>true) true n 29 cs = some y) : ∃ m : List Int,True ∧ wN W cs [eY m]:=by
 obtain ⟨l,a,k,c,e,-,hA⟩:=jN (k:=1) (one:=fun x=>[intD x]) (all:=fun l=>l.map intD) (P:=fun _=>True) (xR intD) (fun _=>rfl) (xQ intD) Tryz.underlying29 IY (by decide) hy (fun n' cs' y' hn _ hy' h'=>int_lieP h') h
 refine ⟨l,trivial,fun j d hd=>?_⟩
 rcases (show j = 0 ∨ 1 ≤ j by omega) with rfl | h3
 ·cases hd;exact ⟨_,by rw [e];rfl,hA⟩
 ·rw [List.getElem?_eq_none (by simpa using h3)] at hd;cases hd
theorem NJ (r : Bs) (op : Int) (nm : Bs) (ts : List Tm) (fs : List Fm) (lb : Int) (ps : List Pf) (ms : List (List Int)) : (Pf.mk r (.mk op nm ts fs) lb ps ms).ds = [.val (str r),.val (.int .u8 op),.val (str nm),.sl 3 ts.length (cC ts),.sl 4 fs.length (cH fs),.val (.int .i64 lb),.sl 8 ps.length (cX ps),.sl 1 ms.length (ms.map eY)]:=rfl
theorem pf_fit (fuel : Nat) : ∀ (cs : List Value) (y : DataW H × List MemPlace),gH 53 y.1 → DataW.trod enc Tryz.prog W 0 (fun _=>true) true fuel 53 cs = some y → ∃ t : Pf,t.sz ∧ wN W cs t.ds:=by
 induction fuel using Nat.strongRecOn with
 | _ fuel ih =>
 intro cs y hy h
 obtain ⟨xs,n,rfl,rfl,hl,hxl,hall⟩:=DataW.trod_struct Tryz.underlying53 h
 have hx : ∀ i,i < 5 → ∃ z,xs[i]? = some z:=fun i hi=>⟨_,List.getElem?_eq_getElem (show i < xs.length by rw [hxl];exact hi)⟩
 obtain ⟨z0,g0⟩:=hx 0 (by omega)
 obtain ⟨z1,g1⟩:=hx 1 (by omega)
 obtain ⟨z2,g2⟩:=hx 2 (by omega)
 obtain ⟨z3,g3⟩:=hx 3 (by omega)
 obtain ⟨z4,g4⟩:=hx 4 (by omega)
 have e:=list5 hxl g0 g1 g2 g3 g4
 have hw : DataW.weights Tryz.prog 53 (DataW.agg (xs.map (·.1))) = z0.1.weights Tryz.prog 9 ++ (z1.1.weights Tryz.prog 25 ++ (z2.1.weights Tryz.prog 3 ++ (z3.1.weights Tryz.prog 50 ++ (z4.1.weights Tryz.prog 51 ++ [])))):=by
  rw [e];simp [DataW.weights,DataW.weightsEach,Tryz.underlying53]
 have y0 : gH 9 z0.1:=fun n hn=>hy n (by show n ∈ DataW.weights Tryz.prog 53 _;rw [hw];simp [hn])
 have y1 : gH 25 z1.1:=fun n hn=>hy n (by show n ∈ DataW.weights Tryz.prog 53 _;rw [hw];simp [hn])
 have y3 : gH 50 z3.1:=fun n hn=>hy n (by show n ∈ DataW.weights Tryz.prog 53 _;rw [hw];simp [hn])
 have y4 : gH 51 z4.1:=fun n hn=>hy n (by show n ∈ DataW.weights Tryz.prog 53 _;rw [hw];simp [hn])
 have h0 : DataW.trod enc Tryz.prog W 0 (fun _=>true) true n 9 ((cs.drop 0).take (Tryz.prog.cellsOf 9)) = _:=(hall 0 _ rfl).trans g0
 have h1 : DataW.trod enc Tryz.prog W 0 (fun _=>true) true n 25 ((cs.drop 1).take (Tryz.prog.cellsOf 25)) = _:=(hall 1 _ rfl).trans g1
 have h2 : DataW.trod enc Tryz.prog W 0 (fun _=>true) true n 3 ((cs.drop 5).take (Tryz.prog.cellsOf 3)) = _:=(hall 2 _ rfl).trans g2
 have h3 : DataW.trod enc Tryz.prog W 0 (fun _=>true) true n 50 ((cs.drop 6).take (Tryz.prog.cellsOf 50)) = _:=(hall 3 _ rfl).trans g3
 have h4 : DataW.trod enc Tryz.prog W 0 (fun _=>true) true n 51 ((cs.drop 7).take (Tryz.prog.cellsOf 51)) = _:=(hall 4 _ rfl).trans g4
 rw [DF] at h0
 rw [IX] at h1
 rw [IY] at h2
 rw [cells50p] at h3
 rw [cells51p] at h4
 obtain ⟨r,e0,hr,-⟩:=wI y0 h0
 obtain ⟨⟨op,nm,ts,fs⟩,⟨hfz,-⟩,hF⟩:=fm_fit n _ _ y1 h1
 obtain ⟨lb,e2,-,-⟩:=DataW.trod_int Tryz.underlying3 h2
 obtain ⟨l,a,m,c,e3,hP,hA⟩:=jN (k:=8) (one:=Pf.ds) (all:=cX) (P:=fun t=>t.sz) yB Pf.ds_length dG Tryz.underlying50 EV (by decide) y3 (fun n' cs' y' hn _ hy' h'=>ih n' (by omega) cs' y' hy' h') h3
 obtain ⟨ms,a',m',c',e4,-,hA'⟩:=jN (k:=1) (one:=fun m=>[eY m]) (all:=fun l=>l.map eY) (P:=fun _=>True) (xR eY) (fun _=>rfl) (xQ eY) Tryz.underlying51 cells29p (by decide) y4 (fun n' cs' y' hn _ hy' h'=>ms_lieP hy' h') h4
 refine ⟨.mk r (.mk op nm ts fs) lb l ms,⟨hr,hfz,(jM l).2 hP⟩,fun j d hd=>?_⟩
 have part : ∀ k,k < 4 → ∀ d,([.val (.int .u8 op),.val (str nm),.sl 3 ts.length (cC ts),.sl 4 fs.length (cH fs)] : List D)[k]? = some d → ∃ u,cs[1 + k]? = some u ∧ At W d u:=fun k hk d hd=>by
  obtain ⟨u,q1,q2⟩:=hF k d (by rw [KX];exact hd)
  refine ⟨u, ?_,q2⟩
  rw [List.getElem?_take,if_pos hk,List.getElem?_drop] at q1
  exact q1
 rw [NJ] at hd
 rcases (show j = 0 ∨ j = 1 ∨ j = 2 ∨ j = 3 ∨ j = 4 ∨ j = 5 ∨ j = 6 ∨ j = 7 ∨ 8 ≤ j by omega) with rfl | rfl | rfl | rfl | rfl | rfl | rfl | rfl | h8
 ·cases hd;exact ⟨_,cell_of_one e0,rfl⟩
 ·exact part 0 (by omega) d hd
 ·exact part 1 (by omega) d hd
 ·exact part 2 (by omega) d hd
 ·exact part 3 (by omega) d hd
 ·cases hd;exact ⟨_,cell_of_one e2,rfl⟩
 ·cases hd;exact ⟨_,cell_of_one e3,hA⟩
 ·cases hd;exact ⟨_,cell_of_one e4,hA'⟩
 ·rw [List.getElem?_eq_none (by simpa using h8)] at hd;cases hd
theorem pf_of {base : Nat} {v : Value} {d : DataW H} {p : List MemPlace} (hval : Value.okWide Tryz.prog W .any base 53 v) (hy : gH 53 d) (h : DataW.Trod enc Tryz.prog W 0 (fun _=>true) true 53 v d p) :
  ∃ P : Pf,P.sz ∧ cU W P v:=by
 obtain ⟨cs,rfl,hsz⟩:=okWide_struct Tryz.underlying53 hval
 rw [EV] at hsz
 obtain ⟨fuel,h⟩:=h
 obtain ⟨⟨r,⟨op,nm,ts,fs⟩,lb,ps,ms⟩,hz,hF⟩:=pf_fit fuel _ _ hy h
 have hc : ∀ j d,(Pf.mk r (.mk op nm ts fs) lb ps ms).ds[j]? = some d → ∃ u,cs[j]? = some u ∧ At W d u:=fun j d hd=>by
  obtain ⟨u,q1,q2⟩:=hF j d hd
  exact ⟨u,by simpa [Value.cells] using q1,q2⟩
 rw [NJ] at hc
 obtain ⟨u0,k0,p0⟩:=hc 0 _ rfl
 obtain ⟨u1,k1,p1⟩:=hc 1 _ rfl
 obtain ⟨u2,k2,p2⟩:=hc 2 _ rfl
 obtain ⟨u3,k3,p3⟩:=hc 3 _ rfl
 obtain ⟨u4,k4,p4⟩:=hc 4 _ rfl
 obtain ⟨u5,k5,p5⟩:=hc 5 _ rfl
 obtain ⟨u6,k6,p6⟩:=hc 6 _ rfl
 obtain ⟨u7,k7,p7⟩:=hc 7 _ rfl
 obtain ⟨x,k,e,rfl⟩:=bI.slice (w:=W) (l:=ts) p3
 obtain ⟨y,m,d,rfl⟩:=cD.slice (w:=W) (l:=fs) p4
 obtain ⟨s,sn,sc,rfl⟩:=gD.slice (w:=W) (l:=ps) p6
 obtain ⟨q,qn,qc,rfl⟩:=eB.slice (w:=W) (l:=ms) p7
 have e0 : u0 = _:=p0
 have e1 : u1 = _:=p1
 have e2 : u2 = _:=p2
 have e5 : u5 = _:=p5
 subst e0 e1 e2 e5
 have hcs : cs = #[str r,.int .u8 op,str nm,.slice x k e,.slice y m d,.int .i64 lb,.slice s sn sc,.slice q qn qc]:=by
  apply Array.ext
  ·simp [hsz]
  ·intro i h1 h2
   rcases (show i = 0 ∨ i = 1 ∨ i = 2 ∨ i = 3 ∨ i = 4 ∨ i = 5 ∨ i = 6 ∨ i = 7 by omega) with rfl | rfl | rfl | rfl | rfl | rfl | rfl | rfl
   ·simpa using (Array.getElem?_eq_some_iff.1 k0).2
   ·simpa using (Array.getElem?_eq_some_iff.1 k1).2
   ·simpa using (Array.getElem?_eq_some_iff.1 k2).2
   ·simpa using (Array.getElem?_eq_some_iff.1 k3).2
   ·simpa using (Array.getElem?_eq_some_iff.1 k4).2
   ·simpa using (Array.getElem?_eq_some_iff.1 k5).2
   ·simpa using (Array.getElem?_eq_some_iff.1 k6).2
   ·simpa using (Array.getElem?_eq_some_iff.1 k7).2
 subst hcs
 exact ⟨.mk r (.mk op nm ts fs) lb ps ms,hz,x,k,e,y,m,d,s,sn,sc,q,qn,qc,rfl,p3,p4,p6,p7⟩
theorem txs_of {base : Nat} {v : Value} {d : DataW H} {p : List MemPlace} (hval : Value.okWide Tryz.prog W .any base 36 v) (hy : gH 36 d) (h : DataW.Trod enc Tryz.prog W 0 (fun _=>true) true 36 v d p) :
  ∃ (L : List Bs) (a : Option Addr) (n c : Nat),v = .slice a n c ∧ L.length * 16 ≤ 140737488351232 ∧ aU W L (.slice a n c):=by
 obtain ⟨fuel,h⟩:=h
 obtain ⟨l,a,k,c,e,-,hA⟩:=jN (k:=1) (one:=fun x=>[strD x]) (all:=fun l=>l.map strD) (P:=fun _=>True) (xR strD) (fun _=>rfl) (xQ strD) Tryz.underlying36 DF (by decide) hy (fun n' cs' y' hn _ hy' h'=>by
  obtain ⟨x,-,hx⟩:=str_lieP hy' h'
  exact ⟨x,trivial,hx⟩) h
 obtain ⟨a',k',c',e',hk⟩:=slice_weightP Tryz.underlying36 hy h
 rw [e] at e'
 simp only [List.cons.injEq,Value.slice.injEq,and_true] at e'
 obtain ⟨-,rfl,-⟩:=e'
 rw [bytes9p] at hk
 have hA' : aU W l (.slice a k c):=hA
 have hl:=hA'.len.1
 refine ⟨l,a,k,c, ?_,by rw [← hl];exact hk,hA'⟩
 obtain ⟨a2,l2,c2,rfl⟩:=okWide_slice Tryz.underlying36 hval
 simpa [Value.cells] using e
end
open Go Go.ChangeShapes Go.WideShapes Go.ChangeAt Go.RowKit Ly
theorem MU : Tryz.prog.globalNamed "strconv.ErrRange" = some 3:=by kernel_rfl
theorem MW : Tryz.prog.globalNamed "strconv.ErrSyntax" = some 2:=by kernel_rfl
theorem KC : "*" ++ "errors.errorString" = "*errors.errorString":=by decide
theorem LY (u : TypeId) (h : Tryz.prog.typeName? 3 u = some "*errors.errorString") : u = 315 :=
 typeName_ptr_named (nm:="errors.errorString") (by rw [KC];kernel_rfl) (by kernel_rfl) (by decide) u (by rw [KC];exact h)
theorem glob3 : (Tryz.prog.globals[3]?).map (·.type) = some 67:=by kernel_rfl
theorem glob2 : (Tryz.prog.globals[2]?).map (·.type) = some 67:=by kernel_rfl
theorem EU : Tryz.prog.cellsOf 317 = 1:=by kernel_rfl
theorem JA : Tryz.prog.cellsOf 9 = 1:=by kernel_rfl
theorem err_at {W : World} {r : List (String × DataW Unit)} (h : laidMet Tryz.prog (("strconv.ErrRange",Rows.laid_strconv_ErrRange) :: ("strconv.ErrSyntax",Rows.laid_strconv_ErrSyntax) :: r) W) : wL W:=by
 obtain ⟨a0,s0,hv0,_,_,_⟩:=laid_sentinel h MU glob3 Tryz.underlying67 LY Tryz.underlying315 Tryz.underlying317 rfl rfl Tryz.underlying9 EU JA
 obtain ⟨a1,s1,hv1,_,_,_⟩:=laid_sentinel h.tail MW glob2 Tryz.underlying67 LY Tryz.underlying315 Tryz.underlying317 rfl rfl Tryz.underlying9 EU JA
 exact ⟨⟨_,by have h0:=World.var?_cell MW hv1 0;simpa using h0,.inr ⟨_,_,rfl⟩⟩,_,by have h0:=World.var?_cell MU hv0 0;simpa using h0,.inr ⟨_,_,rfl⟩⟩
end Go.Proofs.YtcandidgaegghaaGreatDoor
