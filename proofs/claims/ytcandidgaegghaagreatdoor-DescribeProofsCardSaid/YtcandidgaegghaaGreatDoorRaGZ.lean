/- describe.ReadProof at any lines: the walk. Conditions: at most 300 lines that fit; the program's tables lie as laid. Printed by gen/genrag.py. -/
import Derived.Test.YtcandidgaegghaaGreatDoorCpZ
import Derived.Test.YtcandidgaegghaaGreatDoorOvJZ
set_option maxRecDepth 10000
set_option linter.unusedSimpArgs false
set_option linter.unusedVariables false
namespace Go.Proofs.YtcandidgaegghaaGreatDoor
open Go Go.RowKit Ly
set_option maxHeartbeats 40000000 in
theorem ReadProof_short (ls : List Bs) (hn : ls.length ≤ 300) (hls : ∀ x ∈ ls,x.length ≤ 1000000000) (la : Option Addr) (N lc : Nat) (w : World) (ht : Tabs w) (hp : iK w) (hL : aU w ls (.slice la N lc)) :
  Calls Tryz.prog 46 #[.slice la N lc] w (zM ls w):=by
 have HT:=Hd ht
 have HPW:=Hd hp
 have HL:=Hd hL
 have HLS:=Hd hls
 have HNN:=Hd hn
 have hN : Hid (N = ls.length ∧ N ≤ lc ∧ lc ≤ maxLen):=hL.len
 have N2 : N ≤ 300:=by have:=hN.out;omega
 have n0 : ¬ ((N : Int) > 300):=by omega
 clear ht hp hL hls hn
 have zr:=heap_alloc_new w (.cells #[str [],.int .u8 0,str [],.slice none 0 0,.slice none 0 0,.int .i64 0,.slice none 0 0,.slice none 0 0] 53)
 have R0 : Hid (RPB w [] (.slice none 0 0) (w.alloc (.cells #[str [],.int .u8 0,str [],.slice none 0 0,.slice none 0 0,.int .i64 0,.slice none 0 0,.slice none 0 0] 53))):=⟨bnew,zr,OwnB.nil _ _ _ _ _⟩
 clear zr
 go_enter Tryz.func46,Tryz.ntmps46
 go_wp2_with fail
 go_loopw [4,21] (fun u4 u21 wr=>∃ j : Nat,j ≤ N ∧ u21 = .int .i64 j ∧ Hid (∃ S,S.length ≤ j ∧ RPB w S u4 wr ∧ fW 0 [] (ls.take j) = some S ∧ qT S)) (fun _ u21 _=>N - (intOf u21).toNat)
 case atStart=>exact ⟨0,Nat.zero_le _,rfl,[],Nat.le_refl _,R0.out,by rw [List.take_zero];rfl,trivial⟩
 case round =>
  obtain ⟨j,hj,rfl,hR⟩:=hrel
  obtain ⟨S,hS,R,hrun,hsz⟩:=hR.out
  clear hR R0
  by_cases hlt : j < N
  ·obtain ⟨ln,hln⟩ : ∃ ln,ls[j]? = some ln:=⟨_,List.getElem?_eq_getElem (by have:=hN.out;omega)⟩
   have hnx:=run_next hrun hln (by have:=hN.out;omega)
   have LNL : Hid (ln.length ≤ 1000000000):=HLS.out ln (List.mem_of_getElem? hln)
   obtain ⟨a,c,rfl⟩:=R.form
   obtain ⟨T1,hT⟩ : ∃ T1,Lib.itoa ((j : Int) + 1) = T1:=⟨_,rfl⟩
   have tl : T1.length ≤ 7:=by rw [← hT];exact eT (by omega) (by omega)
   have IT : Hid (∀ w,iK w → Calls Tryz.prog 35 #[.int .i64 ((j : Int) + 1)] w (Rt (str T1) w)):=fun w hp=>by rw [← hT];exact mC _ (by omega) (by omega) w hp
   have HTT:=Hd hT
   obtain ⟨RS,hRS⟩ : ∃ RS,Lib.trimPrefix ln (T1 ++ eE) = RS:=⟨_,rfl⟩
   obtain ⟨ok,hok⟩ : ∃ ok,Lib.hasPrefix ln (T1 ++ eE) = ok:=⟨_,rfl⟩
   have CP : Hid (∀ W,Calls Tryz.prog 39 #[str ln,.string (⟨T1.toArray⟩ ++ ⟨#[58,32]⟩)] W fun e w'=>e = .returned (.tuple #[str RS,.bool ok]) ∧ w' = W):=fun W=>by
    have:=cutPrefix_num ln T1 W
    rw [hRS,hok] at this;exact this
   have RL0 : RS.length ≤ 1000000000:=by rw [← hRS];have:=pP ln (T1 ++ eE);have:=LNL.out;omega
   have LA : Hid (∀ W,Tabs W → Calls Tryz.prog 120 #[str RS] W (eH RS W)):=fun W hW=>line_any RS RL0 W hW
   obtain ⟨lb,lo,rfl,hc⟩:=HL.out.get (aJ hln)
   have c0:=aA R.bw _ _ (hc j _ hln)
   have RR:=Hd R
   have BW:=Hd R.bw
   have NXT:=Hd hnx
   have SZ:=Hd hsz
   have RLS:=Hd RL0
   have HOK:=Hd hok
   have HRS:=Hd hRS
   obtain ⟨M,hM⟩ : ∃ M,S.length = M:=⟨_,rfl⟩
   have HM:=Hd hM
   rw [hM] at RR hS ⊢
   clear hln hrun hnx hT R hc hM hRS hok hsz RL0
   obtain ⟨lg,hlg⟩ : ∃ lg,cO RS = lg:=⟨_,rfl⟩
   have LG:=Hd hlg
   clear hlg
   cases ok with
   | false =>
    cases lg with
    | some q =>
     have BAD : Hid (dB ls = none):=tI (j:=j + 1) (by rw [NXT.out];exact tN HTT.out (.inl HOK.out))
     clear LNL NXT SZ HOK HRS HM HTT
     go_upto_region 9 with (first
      | (go_at_call 35;refine (IT.out _ (HPW.out.below BW.out)).mono ?_;rintro e w5 ⟨rfl,b5⟩;have B5:=Hd b5;clear b5)
      | (go_at_call 39;refine (CP.out _).mono ?_;rintro e w6 ⟨rfl,rfl⟩)
      | (go_at_call 120;refine (LA.out _ ((HT.out.below BW.out).below B5.out)).mono ?_;rintro e w7 ⟨b7,h7⟩;rw [LG.out] at h7;obtain ⟨fa,fn,fc,fb,fm,fd,qa,qn,qc,rfl,-,-,-⟩:=h7;have B7:=Hd b7;clear b7))
     have B8 : Hid (Below wr.heap.size wr (w7.alloc (.cells #[str q.rule,.int .u8 q.form.op,str q.form.name,.slice fa fn fc,.slice fb fm fd,.int .i64 q.label,.slice none 0 0,.slice qa qn qc] 53))):=aB (aB B5.out B7.out) bnew
     have BW9 : Hid (Below w.heap.size w (w7.alloc (.cells #[str q.rule,.int .u8 q.form.op,str q.form.name,.slice fa fn fc,.slice fb fm fd,.int .i64 q.label,.slice none 0 0,.slice qa qn qc] 53))):=aB RR.out.bw B8.out
     have R9 : Hid ((w7.alloc (.cells #[str q.rule,.int .u8 q.form.op,str q.form.name,.slice fa fn fc,.slice fb fm fd,.int .i64 q.label,.slice none 0 0,.slice qa qn qc] 53)).heap[w.heap.size]? = some (.cells #[str [],.int .u8 0,str [],.slice none 0 0,.slice none 0 0,.int .i64 0,.slice none 0 0,.slice none 0 0] 53 (0,0))):=kc B8.out RR.out.res
     clear c0
     obtain ⟨v0,v1,v2,v3,v4,v5,v6,v7⟩:=eV R9.out
     obtain ⟨f0,f1,f2,f3,f4,f5,f6,f7⟩:=fO R9.out
     have hz:=(Array.getElem?_eq_some_iff.1 R9.out).1
     go_wp2_with fail
     exact pM BW9.out R9.out rfl rfl fun W' q1 q3=>⟨q1,.inr ⟨2,.inr ⟨HNN.out,BAD.out,rfl⟩,rfl⟩⟩
    | none =>
     have BAD : Hid (dB ls = none):=tI (j:=j + 1) (by rw [NXT.out];exact tN HTT.out (.inl HOK.out))
     clear LNL NXT SZ HOK HRS HM HTT
     go_upto_region 9 with (first
      | (go_at_call 35;refine (IT.out _ (HPW.out.below BW.out)).mono ?_;rintro e w5 ⟨rfl,b5⟩;have B5:=Hd b5;clear b5)
      | (go_at_call 39;refine (CP.out _).mono ?_;rintro e w6 ⟨rfl,rfl⟩)
      | (go_at_call 120;refine (LA.out _ ((HT.out.below BW.out).below B5.out)).mono ?_;rintro e w7 ⟨b7,h7⟩;rw [LG.out] at h7;obtain ⟨r7,o7,s7,fa,fb,sa,qa,fn,fc,fm,fd,sn,sc,qn,qc,lb7,n7,rfl⟩:=h7;have B7:=Hd b7;clear b7))
     have B8 : Hid (Below wr.heap.size wr (w7.alloc (.cells #[str r7,.int .u8 o7,str s7,.slice fa fn fc,.slice fb fm fd,.int .i64 lb7,.slice sa sn sc,.slice qa qn qc] 53))):=aB (aB B5.out B7.out) bnew
     have BW9 : Hid (Below w.heap.size w (w7.alloc (.cells #[str r7,.int .u8 o7,str s7,.slice fa fn fc,.slice fb fm fd,.int .i64 lb7,.slice sa sn sc,.slice qa qn qc] 53))):=aB RR.out.bw B8.out
     have R9 : Hid ((w7.alloc (.cells #[str r7,.int .u8 o7,str s7,.slice fa fn fc,.slice fb fm fd,.int .i64 lb7,.slice sa sn sc,.slice qa qn qc] 53)).heap[w.heap.size]? = some (.cells #[str [],.int .u8 0,str [],.slice none 0 0,.slice none 0 0,.int .i64 0,.slice none 0 0,.slice none 0 0] 53 (0,0))):=kc B8.out RR.out.res
     clear c0
     obtain ⟨v0,v1,v2,v3,v4,v5,v6,v7⟩:=eV R9.out
     obtain ⟨f0,f1,f2,f3,f4,f5,f6,f7⟩:=fO R9.out
     have hz:=(Array.getElem?_eq_some_iff.1 R9.out).1
     go_wp2_with fail
     exact pM BW9.out R9.out rfl rfl fun W' q1 q3=>⟨q1,.inr ⟨2,.inr ⟨HNN.out,BAD.out,rfl⟩,rfl⟩⟩
   | true =>
    cases lg with
    | none =>
     have BAD : Hid (dB ls = none):=tI (j:=j + 1) (by rw [NXT.out];exact tN HTT.out (.inr (.inl (by rw [HRS.out];exact LG.out))))
     clear LNL NXT SZ HOK HRS HM HTT
     go_upto_region 9 with (first
      | (go_at_call 35;refine (IT.out _ (HPW.out.below BW.out)).mono ?_;rintro e w5 ⟨rfl,b5⟩;have B5:=Hd b5;clear b5)
      | (go_at_call 39;refine (CP.out _).mono ?_;rintro e w6 ⟨rfl,rfl⟩)
      | (go_at_call 120;refine (LA.out _ ((HT.out.below BW.out).below B5.out)).mono ?_;rintro e w7 ⟨b7,h7⟩;rw [LG.out] at h7;obtain ⟨r7,o7,s7,fa,fb,sa,qa,fn,fc,fm,fd,sn,sc,qn,qc,lb7,n7,rfl⟩:=h7;have B7:=Hd b7;clear b7))
     have B8 : Hid (Below wr.heap.size wr (w7.alloc (.cells #[str r7,.int .u8 o7,str s7,.slice fa fn fc,.slice fb fm fd,.int .i64 lb7,.slice sa sn sc,.slice qa qn qc] 53))):=aB (aB B5.out B7.out) bnew
     have BW9 : Hid (Below w.heap.size w (w7.alloc (.cells #[str r7,.int .u8 o7,str s7,.slice fa fn fc,.slice fb fm fd,.int .i64 lb7,.slice sa sn sc,.slice qa qn qc] 53))):=aB RR.out.bw B8.out
     have R9 : Hid ((w7.alloc (.cells #[str r7,.int .u8 o7,str s7,.slice fa fn fc,.slice fb fm fd,.int .i64 lb7,.slice sa sn sc,.slice qa qn qc] 53)).heap[w.heap.size]? = some (.cells #[str [],.int .u8 0,str [],.slice none 0 0,.slice none 0 0,.int .i64 0,.slice none 0 0,.slice none 0 0] 53 (0,0))):=kc B8.out RR.out.res
     clear c0
     obtain ⟨v0,v1,v2,v3,v4,v5,v6,v7⟩:=eV R9.out
     obtain ⟨f0,f1,f2,f3,f4,f5,f6,f7⟩:=fO R9.out
     have hz:=(Array.getElem?_eq_some_iff.1 R9.out).1
     go_wp2_with fail
     exact pM BW9.out R9.out rfl rfl fun W' q1 q3=>⟨q1,.inr ⟨2,.inr ⟨HNN.out,BAD.out,rfl⟩,rfl⟩⟩
    | some q =>
     obtain ⟨m,hm⟩ : ∃ m,q.marks.length = m:=⟨_,rfl⟩
     have Hm:=Hd hm
     have LQ : Hid (∀ W,Tabs W → Calls Tryz.prog 120 #[str RS] W fun e w'=>∃ fa fn fc fb fm fd qa qn qc,e = .returned (.tuple #[.agg #[str q.rule,.int .u8 q.form.op,str q.form.name,.slice fa fn fc,.slice fb fm fd,.int .i64 q.label,.slice none 0 0,.slice qa qn qc],.int .i64 m,.bool true]) ∧
       TmsB (hide (Go.Proofs.YtcandidgaegghaaGreatDoor.lo W) w') q.form.args (.slice fa fn fc) ∧ FmsB (hide (Go.Proofs.YtcandidgaegghaaGreatDoor.lo W) w') q.form.sub (.slice fb fm fd) ∧ fS (hide (Go.Proofs.YtcandidgaegghaaGreatDoor.lo W) w') q.marks (.slice qa qn qc) ∧ Below W.heap.size W w'):=fun W hW=>(LA.out W hW).mono fun e w' h=>by
      obtain ⟨b7,h7⟩:=h
      rw [LG.out] at h7
      simp only at h7
      rw [hm] at h7
      obtain ⟨fa,fn,fc,fb,fm,fd,qa,qn,qc,h8,h9,h10,h11⟩:=h7
      exact ⟨fa,fn,fc,fb,fm,fd,qa,qn,qc,h8,h9,h10,h11,b7⟩
     clear LA
     by_cases hmM : M < m
     ·have gz : decide (M < m) = true:=by simp;omega
      have BAD : Hid (dB ls = none):=tI (j:=j + 1) (by rw [NXT.out];exact tN HTT.out (.inr (.inr ⟨q,by rw [HRS.out];exact LG.out,by rw [HM.out,Hm.out];exact hmM⟩)))
      clear LNL NXT SZ HOK HRS HM HTT hm Hm LG
      go_upto_region 9 with (first
       | (go_at_call 35;refine (IT.out _ (HPW.out.below BW.out)).mono ?_;rintro e w5 ⟨rfl,b5⟩;have B5:=Hd b5;clear b5)
       | (go_at_call 39;refine (CP.out _).mono ?_;rintro e w6 ⟨rfl,rfl⟩)
       | (go_at_call 120;refine (LQ.out _ ((HT.out.below BW.out).below B5.out)).mono ?_;rintro e w7 ⟨fa,fn,fc,fb,fm,fd,qa,qn,qc,rfl,-,-,-,b7⟩;have B7:=Hd b7;clear b7))
      have B8 : Hid (Below wr.heap.size wr (w7.alloc (.cells #[str q.rule,.int .u8 q.form.op,str q.form.name,.slice fa fn fc,.slice fb fm fd,.int .i64 q.label,.slice none 0 0,.slice qa qn qc] 53))):=aB (aB B5.out B7.out) bnew
      have BW9 : Hid (Below w.heap.size w (w7.alloc (.cells #[str q.rule,.int .u8 q.form.op,str q.form.name,.slice fa fn fc,.slice fb fm fd,.int .i64 q.label,.slice none 0 0,.slice qa qn qc] 53))):=aB RR.out.bw B8.out
      have R9 : Hid ((w7.alloc (.cells #[str q.rule,.int .u8 q.form.op,str q.form.name,.slice fa fn fc,.slice fb fm fd,.int .i64 q.label,.slice none 0 0,.slice qa qn qc] 53)).heap[w.heap.size]? = some (.cells #[str [],.int .u8 0,str [],.slice none 0 0,.slice none 0 0,.int .i64 0,.slice none 0 0,.slice none 0 0] 53 (0,0))):=kc B8.out RR.out.res
      clear c0
      obtain ⟨v0,v1,v2,v3,v4,v5,v6,v7⟩:=eV R9.out
      obtain ⟨f0,f1,f2,f3,f4,f5,f6,f7⟩:=fO R9.out
      have hz:=(Array.getElem?_eq_some_iff.1 R9.out).1
      go_wp2_with fail
      exact pM BW9.out R9.out rfl rfl fun W' q1 q3=>⟨q1,.inr ⟨2,.inr ⟨HNN.out,BAD.out,rfl⟩,rfl⟩⟩
     ·obtain ⟨T,q',rfl,e1,e2,e3,e4,e5,e6⟩:=step_good (S:=S) HTT.out HOK.out (by rw [HRS.out];exact LG.out) (by rw [HM.out,Hm.out];omega)
      have RL : Hid (∀ W,Tabs W → Calls Tryz.prog 120 #[str RS] W fun e w'=>∃ fa fn fc fb fm fd qa qn qc,e = .returned (.tuple #[.agg #[str q'.rule,.int .u8 q'.form.op,str q'.form.name,.slice fa fn fc,.slice fb fm fd,.int .i64 q'.label,.slice none 0 0,.slice qa qn qc],.int .i64 m,.bool true]) ∧
        TmsB (hide (Go.Proofs.YtcandidgaegghaaGreatDoor.lo W) w') q'.form.args (.slice fa fn fc) ∧ FmsB (hide (Go.Proofs.YtcandidgaegghaaGreatDoor.lo W) w') q'.form.sub (.slice fb fm fd) ∧ fS (hide (Go.Proofs.YtcandidgaegghaaGreatDoor.lo W) w') q'.marks (.slice qa qn qc) ∧ Below W.heap.size W w'):=fun W hW=>by
       rw [e1,e2,e3,e4];exact LQ.out W hW
      have RUN : Hid (fW 0 [] (ls.take (j + 1)) = some (T ++ [q'])):=NXT.out.trans e6
      have SZ' : Hid (qT (T ++ [q'])):=by
       show qT _
       have h0:=(jM _).1 SZ.out
       have h1:=lineGot_sz LG.out RLS.out
       refine (jM _).2 fun t ht=>?_
       rcases List.mem_append.1 ht with ht | ht
       ·exact h0 t (by simp [ht])
       ·rw [List.mem_singleton] at ht
        subst ht
        have hs : qT t.sub:=(jM _).2 fun t' ht'=>h0 t' (by simp [ht'])
        obtain ⟨r,ff,l,sub,ms⟩:=t
        have e1' : r = q.rule:=e1
        have e2' : ff = q.form:=e2
        exact ⟨by rw [e1'];unfold maxLen;omega,by rw [e2'];exact (nT h1.1).1,hs⟩
      have hm5 : q'.sub.length = m:=e5.trans hm
      obtain ⟨D,hD⟩ : ∃ D,T.length = D:=⟨_,rfl⟩
      have hMM : D + m = M:=by have:=HM.out;rw [List.length_append,hD,hm5] at this;exact this
      have HMM:=Hd hMM
      have Hm':=Hd hm5
      have HD:=Hd hD
      have dz : (M : Int) - m = D:=by omega
      have dw : IntKind.i64.wrap (D : Int) = D:=IntWalk.i64_in _ (by omega)
      have gz : decide (M < m) = false:=by simp;omega
      have gz' : ¬ (M < m):=by omega
      clear e1 e2 e3 e4 e5 e6 LQ NXT SZ LG LNL HOK HRS HM HTT hm Hm hm5 hD hMM hmM
      go_upto_region 9 with (first
       | (go_at_call 35;refine (IT.out _ (HPW.out.below BW.out)).mono ?_;rintro e w5 ⟨rfl,b5⟩;have B5:=Hd b5;clear b5)
       | (go_at_call 39;refine (CP.out _).mono ?_;rintro e w6 ⟨rfl,rfl⟩)
       | (go_at_call 120;refine (RL.out _ ((HT.out.below BW.out).below B5.out)).mono ?_;rintro e w7 ⟨fa,fn,fc,fb,fm,fd,qa,qn,qc,rfl,h1,h2,h4,b7⟩;have H4:=Hd (And.intro h1 (And.intro h2 h4));have B7:=Hd b7;clear h1 h2 h4 b7))
      go_upto_region 12 with fail
      obtain ⟨xs,xl,x1,xc,xa⟩:=RR.out.tail
      have XL:=Hd xl
      have X1:=Hd x1
      have XC:=Hd xc
      have XA:=Hd xa
      clear xl x1 xc xa
      obtain ⟨mc,cm⟩:=RR.out.cap
      have md : M - D = m:=by have:=HMM.out;omega
      have CLN : Hid (∀ w8 a' n' c',Below wr.heap.size wr w8 → n' = m → (a' = a.map (fun x=>x.add (D * 8)) ∨ (a' = a ∧ m = 0)) → Calls Tryz.prog 121 #[.slice a' n' c'] w8 fun e w'=>∃ v',e = .returned v' ∧ w'.ownsRow w8.heap.size 53 8 v' m xs ∧ Below w8.heap.size w8 w'):=fun w8 a' n' c' b8 hn ha=>by
       have hmm:=Hm'.out
       subst hmm
       have hdd:=HD.out
       subst hdd
       exact RR.out.clone b8 XL.out X1.out XA.out (by omega) a' n' c' hn ha
      have B8 : Hid (∀ o,Below wr.heap.size wr (w7.alloc o)):=fun o=>aB (aB B5.out B7.out) ((Below.refl _ _).alloc (Nat.le_refl _) o)
      go_cut [] from 58 to 62 (fun wx=>∃ ca cc,Hid (wx.heap[w7.heap.size]? = some (.cells #[str q'.rule,.int .u8 q'.form.op,str q'.form.name,.slice fa fn fc,.slice fb fm fd,.int .i64 q'.label,.slice ca m cc,.slice qa qn qc] 53 (0,0)) ∧ Below wr.heap.size wr wx ∧ aX (hide (fun k=>lo1 w k || decide ((Value.slice a M c).ownBlock = some k)) wx) q'.ds [str q'.rule,.int .u8 q'.form.op,str q'.form.name,.slice fa fn fc,.slice fb fm fd,.int .i64 q'.label,.slice ca m cc,.slice qa qn qc]))
      case first =>
       by_cases hcd : c = D
       ·subst hcd
        go_wp2_with (go_at_call 121;refine (CLN.out _ _ _ _ (B8.out _) rfl (.inr ⟨rfl,by have:=HMM.out;omega⟩)).mono ?_;rintro e w9 ⟨vc,rfl,ho9,b9⟩;obtain ⟨ca,cc,rfl⟩:=gP ho9;obtain ⟨g9,FL⟩:=RR.out.filled B5.out B7.out H4.out.1 H4.out.2.1 H4.out.2.2 XC.out (by rw [Hm'.out];exact ho9) b9;have FLH:=Hd FL;obtain ⟨-,-,-,-,-,-,y6,-⟩:=eV g9;obtain ⟨-,-,-,-,-,-,v6,-⟩:=fO g9;clear g9 FL ho9 b9)
        go_meet
        exact ⟨ca,cc,FLH.out _ rfl⟩
       ·go_wp2_with (go_at_call 121;refine (CLN.out _ _ _ _ (B8.out _) rfl (.inl rfl)).mono ?_;rintro e w9 ⟨vc,rfl,ho9,b9⟩;obtain ⟨ca,cc,rfl⟩:=gP ho9;obtain ⟨g9,FL⟩:=RR.out.filled B5.out B7.out H4.out.1 H4.out.2.1 H4.out.2.2 XC.out (by rw [Hm'.out];exact ho9) b9;have FLH:=Hd FL;obtain ⟨-,-,-,-,-,-,y6,-⟩:=eV g9;obtain ⟨-,-,-,-,-,-,v6,-⟩:=fO g9;clear g9 FL ho9 b9)
        go_meet
        exact ⟨ca,cc,FLH.out _ rfl⟩
      case rest =>
      obtain ⟨ca,cc,HF⟩:=hcut
      clear CLN XL X1 XC XA B8 c0
      go_upto_region 13 with fail
      have dc : D ≤ c:=by have:=HMM.out;have:=RR.out.cap.1;omega
      obtain ⟨zs,OW,CT⟩:=RR.out.step HF.out.2.1 HF.out.2.2
      rw [HD.out] at OW CT
      have OWH:=Hd OW
      have CTH:=Hd CT
      obtain ⟨i0,hi0,hz0,hs0,hb0⟩:=info_parts KZ
      have zc : w.heap.size + 1 ≤ wc.heap.size:=by have:=RR.out.base;have:=HF.out.2.1.size;omega
      clear OW CT
      refine wp_region_held_drew (S:=fun w'=>w'.heap[w7.heap.size]? = wc.heap[w7.heap.size]?) (by kernel_rfl) rfl (fun hHeld=>?_)
      refine wpAnyH_take (i:=0) (v:=?_) rfl (by kernel_rfl) (by kernel_rfl) (by kernel_rfl) (fun _ _ _ h=>h) (Or.inl ⟨by rfl, ?_⟩) (by assumption) ?_
      rotate_left
      ·(intro w hSw;go_simp;(try with_reducible rfl))
      try simp only [Act.put,s1,s2,s3,s4,s5,s6]
      refine wpAnyH_take (i:=1) (v:=?_) rfl (by kernel_rfl) (by kernel_rfl) (by kernel_rfl) (fun _ _ _ h=>h) (Or.inl ⟨by rfl, ?_⟩) (by assumption) ?_
      rotate_left
      ·(intro w hSw;go_simp;(try with_reducible rfl))
      try simp only [Act.put,s1,s2,s3,s4,s5,s6]
      refine wpAnyH_take (i:=2) (v:=?_) rfl (by kernel_rfl) (by kernel_rfl) (by kernel_rfl) (fun _ _ _ h=>h) (Or.inl ⟨by rfl, ?_⟩) (by assumption) ?_
      rotate_left
      ·(intro w hSw;go_simp;(try with_reducible rfl))
      try simp only [Act.put,s1,s2,s3,s4,s5,s6]
      refine wpAnyH_take (i:=3) (v:=?_) rfl (by kernel_rfl) (by kernel_rfl) (by kernel_rfl) (fun _ _ _ h=>h) (Or.inl ⟨by rfl, ?_⟩) (by assumption) ?_
      rotate_left
      ·(intro w hSw;have z0:=(World.cell?_of_block (a:=⟨w7.heap.size,0,none⟩) hSw).trans (eV HF.out.1).1;have z1:=(World.cell?_of_block (a:=⟨w7.heap.size,1,none⟩) hSw).trans (eV HF.out.1).2.1;have z2:=(World.cell?_of_block (a:=⟨w7.heap.size,2,none⟩) hSw).trans (eV HF.out.1).2.2.1;have z3:=(World.cell?_of_block (a:=⟨w7.heap.size,3,none⟩) hSw).trans (eV HF.out.1).2.2.2.1;have z4:=(World.cell?_of_block (a:=⟨w7.heap.size,4,none⟩) hSw).trans (eV HF.out.1).2.2.2.2.1;have z5:=(World.cell?_of_block (a:=⟨w7.heap.size,5,none⟩) hSw).trans (eV HF.out.1).2.2.2.2.2.1;have z6:=(World.cell?_of_block (a:=⟨w7.heap.size,6,none⟩) hSw).trans (eV HF.out.1).2.2.2.2.2.2.1;have z7:=(World.cell?_of_block (a:=⟨w7.heap.size,7,none⟩) hSw).trans (eV HF.out.1).2.2.2.2.2.2.2;go_simp;(try with_reducible rfl))
      try simp only [Act.put,s1,s2,s3,s4,s5,s6]
      refine rd 4 (fun K hK=>?_)
      go_simp
      refine hK.out _ _ ((Below.heap_alloc _ _ _ (Array.getElem?_eq_some_iff.1 HF.out.1).1).trans hHeld) (fun hHeld2=>?_)
      clear hK K
      try simp only [Act.put,s1,s2,s3,s4,s5,s6]
      refine rd 5 (fun K hK=>?_)
      refine iH rfl _ _ 50 rfl (w.heap.size + 1) 53 i0 (.agg #[.string ⟨#[]⟩,.int .u8 0,.string ⟨#[]⟩,.slice none 0 0,.slice none 0 0,.int .i64 0,.slice none 0 0,.slice none 0 0]) 8 144 Tryz.underlying50 hi0 hz0 hs0 hb0 rfl (by decide) _ D zs (by rfl) OWH.out ⟨wc.heap.size,0,none⟩ 1 1 [str q'.rule,.int .u8 q'.form.op,str q'.form.name,.slice fa fn fc,.slice fb fm fd,.int .i64 q'.label,.slice ca m cc,.slice qa qn qc] (by rfl) rfl (JQ _ _ _ _ _ _ _ _ _ _) oneCells8 (by unfold maxLen;omega) (by omega) (by simp;omega) ?_
      intro v5 w5 h5 hg5 hat5
      have R5:=Hd (CTH.out v5 w5 h5 ⟨hg5.os,hg5.tape,hg5.output,hg5.size,hg5.block⟩ hat5)
      have g5 : w5.heap[w7.heap.size]? = wc.heap[w7.heap.size]?:=(hg5.block _ (by have:=(Array.getElem?_eq_some_iff.1 HF.out.1).1;simp;omega) (fun e=>by have:=(pH RR.out.own.w _ (by cases a <;> exact e.symm)).2;have:=B5.out.size;have:=B7.out.size;omega)).trans hHeld2
      clear h5 hg5 hat5
      refine hK.out _ _ g5 (fun hHeld3=>?_)
      clear hK K
      try simp only [Act.put,s1,s2,s3,s4,s5,s6]
      refine rd 6 (fun K hK=>?_)
      go_simp
      refine hK.out _ _ hHeld3 (fun hHeld4=>?_)
      clear hK K
      try simp only [Act.put,s1,s2,s3,s4,s5,s6]
      refine wpAnyH_done (by kernel_rfl) ?_ _
      go_wp2_with fail
      go_roundw
      case rel=>exact ⟨j + 1,by omega,by go_num,T ++ [q'],by have:=HMM.out;have:=HD.out;simp;omega,R5.out,RUN.out,SZ'.out⟩
      case measure=>simp [intOf];omega
  ·have ej : j = N:=by omega
   have hall : fW 0 [] ls = some S:=by rw [List.take_of_length_le (by have:=hN.out;omega)] at hrun;exact hrun
   have nlt : ¬ ((j : Int) < N):=by omega
   clear hrun
   by_cases h1 : S.length = 1
   ·obtain ⟨P,rfl⟩:=List.length_eq_one_iff.1 h1
    have NE : Hid (ls ≠ []):=fun e=>by rw [e] at hall;cases hall
    have PSZ : Hid P.sz:=hsz.1
    have PG : Hid (dB ls = if P.right = true ∧ P.lines 0 = ls then some P else none):=by show _ = _;unfold dB;rw [hall]
    obtain ⟨a,c,rfl⟩:=R.form
    obtain ⟨g,x,xk,xe,y,m,d,s,sn,sc,qa,qn,qc,rfl,-,hg2,O⟩:=R.only
    obtain ⟨c0,c1,c2,c3,c4,c5,c6,c7⟩ : _ ∧ _ ∧ _ ∧ _ ∧ _ ∧ _ ∧ _ ∧ _:=⟨O.c0,O.c1,O.c2,O.c3,O.c4,O.c5,O.c6,O.c7⟩
    have OH:=Hd O
    have RR:=Hd R
    have LNE : Hid (P.lines 0 ≠ []):=fun e=>by have h2:=Pf.lines_length P 0;have h3:=Pf.steps_pos P;rw [e] at h2;simp at h2;omega
    have VP : Hid (cU wr P (.agg #[str P.rule,.int .u8 P.form.op,str P.form.name,.slice x xk xe,.slice y m d,.int .i64 P.label,.slice s sn sc,.slice qa qn qc])):=⟨_,_,_,_,_,_,_,_,_,_,_,_,rfl,(O.h1.keep wJ).w,(O.h2.keep wJ).w,(O.h3.keep wJ).w,(O.h4.keep wJ).w⟩
    have PA : Hid (Calls Tryz.prog 24 #[.agg #[str P.rule,.int .u8 P.form.op,str P.form.name,.slice x xk xe,.slice y m d,.int .i64 P.label,.slice s sn sc,.slice qa qn qc]] wr (zJ P wr)):=zK P PSZ.out _ _ (HT.out.r.keep (aA RR.out.bw)) (HT.out.n.keep (aA RR.out.bw)) (HPW.out.below RR.out.bw) VP.out
    clear R O hS hall hsz VP
    obtain ⟨pr,hpr⟩ : ∃ pr,P.right = pr:=⟨_,rfl⟩
    have PR:=Hd hpr
    clear hpr
    have PA' : Hid (Calls Tryz.prog 24 #[.agg #[str P.rule,.int .u8 P.form.op,str P.form.name,.slice x xk xe,.slice y m d,.int .i64 P.label,.slice s sn sc,.slice qa qn qc]] wr fun e w'=>∃ a n c,e = .returned (.tuple #[.slice a n c,.int .i64 (if pr = true then 0 else 2)]) ∧ (pr = true → aU w' (P.lines 0) (.slice a n c)) ∧ Below wr.heap.size wr w'):=PA.out.mono fun e w' h=>by
     obtain ⟨v,he,ho,hb⟩:=h
     obtain ⟨sa,sN,sC,rfl⟩:=aU.slice ho.strsAt
     refine ⟨sa,sN,sC, ?_,fun hp=>?_,hb⟩
     ·rw [he];unfold pfCd;rw [PR.out]
     ·have:=ho.strsAt
      rwa [show pfLn P = P.lines 0 by unfold pfLn;rw [PR.out,hp];rfl] at this
    clear PA
    cases pr with
    | false =>
     have BAD : Hid (dB ls = none):=by show _ = _;rw [PG.out,PR.out];rfl
     go_upto_region 18 with (go_at_call 24;refine PA'.out.mono ?_;rintro e w8 ⟨sa,sN,sC,rfl,-,b8⟩;have B8:=Hd b8;clear b8)
     have BW8 : Hid (Below w.heap.size w w8):=aB RR.out.bw B8.out
     have R9 : Hid (w8.heap[w.heap.size]? = some (.cells #[str [],.int .u8 0,str [],.slice none 0 0,.slice none 0 0,.int .i64 0,.slice none 0 0,.slice none 0 0] 53 (0,0))):=kc B8.out RR.out.res
     clear c0 c1 c2 c3 c4 c5 c6 c7
     obtain ⟨v0,v1,v2,v3,v4,v5,v6,v7⟩:=eV R9.out
     obtain ⟨f0,f1,f2,f3,f4,f5,f6,f7⟩:=fO R9.out
     have hz:=(Array.getElem?_eq_some_iff.1 R9.out).1
     go_wp2_with fail
     exact pM BW8.out R9.out rfl rfl fun W' q1 q3=>⟨q1,.inr ⟨2,.inr ⟨HNN.out,BAD.out,rfl⟩,rfl⟩⟩
    | true =>
     go_upto_region 18 with (go_at_call 24;refine PA'.out.mono ?_;rintro e w8 ⟨sa,sN,sC,rfl,s8,b8⟩;have S8:=Hd (s8 rfl);have B8:=Hd b8;clear s8 b8)
     have BW8 : Hid (Below w.heap.size w w8):=aB RR.out.bw B8.out
     obtain ⟨eb,heb⟩ : ∃ eb,decide (P.lines 0 = ls) = eb:=⟨_,rfl⟩
     have EQ : Hid (Calls Tryz.prog 122 #[.slice sa sN sC,.slice la N lc] w8 (Rt (.bool eb) w8)):=by rw [← heb];exact equal_any (P.lines 0) ls LNE.out NE.out sa sN sC la N lc w8 S8.out (HL.out.keep (aA BW8.out))
     have EB:=Hd heb
     clear c0 c1 c2 c3 c4 c5 c6 c7 heb
     cases eb with
     | false =>
      go_upto_region 19 with (go_at_call 122;refine EQ.out.mono ?_;rintro e w9 ⟨rfl,b9⟩;have B9:=Hd b9;clear b9)
      have O9:=Hd ((OH.out.below B8.out).below B9.out)
      have BW9 : Hid (Below w.heap.size w w9):=aB BW8.out B9.out
      have R9 : Hid (w9.heap[w.heap.size]? = some (.cells #[str [],.int .u8 0,str [],.slice none 0 0,.slice none 0 0,.int .i64 0,.slice none 0 0,.slice none 0 0] 53 (0,0))):=kc B9.out (kc B8.out RR.out.res)
      obtain ⟨c0,c1,c2,c3,c4,c5,c6,c7⟩ : _ ∧ _ ∧ _ ∧ _ ∧ _ ∧ _ ∧ _ ∧ _:=⟨O9.out.c0,O9.out.c1,O9.out.c2,O9.out.c3,O9.out.c4,O9.out.c5,O9.out.c6,O9.out.c7⟩
      obtain ⟨v0,v1,v2,v3,v4,v5,v6,v7⟩:=eV R9.out
      obtain ⟨f0,f1,f2,f3,f4,f5,f6,f7⟩:=fO R9.out
      have hz:=(Array.getElem?_eq_some_iff.1 R9.out).1
      have BAD : Hid (dB ls = none):=by show _ = _;rw [PG.out,if_neg (fun h=>by have:=EB.out;simp [h.2] at this)]
      go_wp2_with fail
      exact pM BW9.out R9.out rfl rfl fun W' q1 q3=>⟨q1,.inr ⟨2,.inr ⟨HNN.out,BAD.out,rfl⟩,rfl⟩⟩
     | true =>
      go_upto_region 20 with (go_at_call 122;refine EQ.out.mono ?_;rintro e w9 ⟨rfl,b9⟩;have B9:=Hd b9;clear b9)
      have O9:=Hd ((OH.out.below B8.out).below B9.out)
      have BW9 : Hid (Below w.heap.size w w9):=aB BW8.out B9.out
      have R9 : Hid (w9.heap[w.heap.size]? = some (.cells #[str [],.int .u8 0,str [],.slice none 0 0,.slice none 0 0,.int .i64 0,.slice none 0 0,.slice none 0 0] 53 (0,0))):=kc B9.out (kc B8.out RR.out.res)
      obtain ⟨c0,c1,c2,c3,c4,c5,c6,c7⟩ : _ ∧ _ ∧ _ ∧ _ ∧ _ ∧ _ ∧ _ ∧ _:=⟨O9.out.c0,O9.out.c1,O9.out.c2,O9.out.c3,O9.out.c4,O9.out.c5,O9.out.c6,O9.out.c7⟩
      obtain ⟨v0,v1,v2,v3,v4,v5,v6,v7⟩:=eV R9.out
      obtain ⟨f0,f1,f2,f3,f4,f5,f6,f7⟩:=fO R9.out
      have hz:=(Array.getElem?_eq_some_iff.1 R9.out).1
      have GOOD : Hid (dB ls = some P):=by show _ = _;rw [PG.out,if_pos ⟨PR.out,by simpa using EB.out⟩]
      go_wp2_with fail
      exact pM BW9.out R9.out rfl rfl fun W' q1 q3=>⟨q1,.inl ⟨P,_,HNN.out,GOOD.out,rfl,_,_,_,_,_,_,_,_,_,_,_,_,rfl,O9.out.h1.keep q3,O9.out.h2.keep q3,O9.out.h3.keep q3,O9.out.h4.keep q3⟩⟩
   ·have BAD : Hid (dB ls = none):=by
     show _ = _
     unfold dB
     rw [hall]
     cases S with
     | nil=>rfl
     | cons P S'=>cases S' with
      | nil=>exact absurd rfl h1
      | cons Q S''=>rfl
    obtain ⟨a,c,rfl⟩:=R.form
    have RR:=Hd R
    have z1 : ¬ ((S.length : Int) = 1):=by omega
    obtain ⟨v0,v1,v2,v3,v4,v5,v6,v7⟩:=eV R.res
    obtain ⟨f0,f1,f2,f3,f4,f5,f6,f7⟩:=fO R.res
    have hz:=(Array.getElem?_eq_some_iff.1 R.res).1
    clear R hall hsz
    go_wp2_with fail
    exact pM RR.out.bw RR.out.res rfl rfl fun W' q1 q3=>⟨q1,.inr ⟨2,.inr ⟨HNN.out,BAD.out,rfl⟩,rfl⟩⟩
theorem ReadProof_any (ls : List Bs) (hls : ls.length ≤ 300 → ∀ x ∈ ls,x.length ≤ 1000000000) (la : Option Addr) (N lc : Nat) (w : World) (ht : Tabs w) (hp : iK w) (hL : aU w ls (.slice la N lc)) : Calls Tryz.prog 46 #[.slice la N lc] w (zM ls w):=by
 by_cases h : 300 < ls.length
 ·exact ReadProof_long ls h la N lc w hL
 ·exact ReadProof_short ls (by omega) (hls (by omega)) la N lc w ht hp hL
end Go.Proofs.YtcandidgaegghaaGreatDoor
