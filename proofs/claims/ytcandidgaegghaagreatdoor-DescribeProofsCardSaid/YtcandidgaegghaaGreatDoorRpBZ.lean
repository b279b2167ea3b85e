/- lyceumref41.steps, lines and Proof at any proof. Conditions: names and lists fit into memory; formulas have at most a million parts. -/
import Derived.Test.YtcandidgaegghaaGreatDoorCpZ
import Derived.Test.YtcandidgaegghaaGreatDoorRpAZ
import Derived.Test.YtcandidgaegghaaGreatDoorTxBZ
import Derived.Maps.AppendAt
set_option maxRecDepth 10000
set_option linter.unusedSimpArgs false
set_option linter.unusedVariables false
namespace Go.Proofs.YtcandidgaegghaaGreatDoor
open Go Go.RowKit Go.Sort Ly
open Go.Lib (itoa)
set_option maxHeartbeats 16000000
theorem mO (n : Int) (h0 : 0 ≤ n) (h1 : n ≤ 1000000) (w : World) : Calls Tryz.prog 73 #[.int .i64 n] w fun e w'=>e = .returned (str (itoa n)) ∧ w = w':=by
 obtain ⟨N,rfl⟩ : ∃ N : Nat,n = (N : Int):=⟨n.toNat,by omega⟩
 have hdec : itoa (N : Int) = Lib.decDigits N:=by unfold itoa;rw [if_neg (by omega)];simp
 rw [hdec];exact digits_c N (by omega) w
theorem wrapR {z : Int} (h0 : -9223372036854775808 ≤ z) (h1 : z ≤ 9223372036854775807) : IntKind.i64.wrap z = z:=by
 rw [IntKind.wrap_i64];omega
theorem uD {B : Nat} {w : World} {l : List Bs} {v : Value} (h : aI B w l v) : ∃ a c,v = .slice a l.length c:=by
 rcases h.2 with ⟨rfl,hn⟩ | ⟨g,cap,cur,rfl,_⟩
 ·exact ⟨none,0,by rw [hn]⟩
 ·exact ⟨_,cap,rfl⟩
theorem IA (w : World) (a : Value) {t : TypeId} : ∀ (j : Nat) (u : Value),[a][j]? = some u → (w.alloc (.cells #[a] t)).cell? ((⟨w.heap.size,0,none⟩ : Addr).add j) = some u:=by
 intro j u hu
 rw [show ((⟨w.heap.size,0,none⟩ : Addr).add j) = ⟨w.heap.size,j,none⟩ by simp [Addr.add];omega,box_cell (heap_alloc_new w _)]
 rw [← hu];simp
def StC (p : Pf) : Prop:=∀ (w : World) (x : Value),cU w p x → p.steps ≤ 1000000 → Calls Tryz.prog 185 #[x] w (Rt (.int .i64 (p.steps : Nat)) w)
theorem steps_step (r : Bs) (f : Fm) (lb : Int) (ps : List Pf) (ms : List (List Int)) (hh : ∀ p ∈ ps,StC p) : StC (.mk r f lb ps ms):=by
 intro w x hx hst
 obtain ⟨a,k,c,a',m,d,s,sn,sc,q,qn,qc,rfl,h1,h2,h3,h4⟩:=hx
 simp only [Pf.rule,Pf.form,Pf.label,Pf.sub,Pf.marks] at *
 have hs:=h3.len
 have hsl : sn ≤ 9223372036854775807:=by have:=le63 hs.2.2;omega
 have L3:=Hd hs.1
 have H3:=Hd h3
 have H:=Hd hh
 have hst2 : (Pf.mk r f lb ps ms).steps = aE ps + 1:=by simp [Pf.steps]
 rw [hst2] at hst ⊢
 have B0 : Hid (Below w.heap.size w (w.alloc (.cells #[str r,.int .u8 f.op,str f.name,.slice a k c,.slice a' m d,.int .i64 lb,.slice s sn sc,.slice q qn qc] 53))):=bnew
 have R0 : Hid ((w.alloc (.cells #[str r,.int .u8 f.op,str f.name,.slice a k c,.slice a' m d,.int .i64 lb,.slice s sn sc,.slice q qn qc] 53)).heap[w.heap.size]? = some (.cells #[str r,.int .u8 f.op,str f.name,.slice a k c,.slice a' m d,.int .i64 lb,.slice s sn sc,.slice q qn qc] 53)):=heap_alloc_new w _
 clear hs h1 h2 h3 h4 hh hst2
 go_enter Tryz.func185,Tryz.ntmps185
 obtain ⟨c0,c1,c2,c3,c4,c5,c6,c7⟩:=row53' R0.out
 go_wp2_with fail
 go_loopw [3,4] (fun u i wr=>∃ j : Nat,j ≤ sn ∧ i = .int .i64 j ∧ u = .int .i64 ((1 + aE (ps.take j) : Nat) : Int) ∧ Hid (Below w.heap.size w wr ∧ wr.heap[w.heap.size]? = some (.cells #[str r,.int .u8 f.op,str f.name,.slice a k c,.slice a' m d,.int .i64 lb,.slice s sn sc,.slice q qn qc] 53))) (fun _ i _=>sn - (intOf i).toNat)
 case atStart=>exact ⟨0,Nat.zero_le _,rfl,by simp [aE],B0.out,R0.out⟩
 case round =>
  clear c0 c1 c2 c3 c4 c5 c6 c7
  obtain ⟨j,hj,rfl,rfl,hr⟩:=hrel
  obtain ⟨c0,c1,c2,c3,c4,c5,c6,c7⟩:=row53' hr.out.2
  by_cases hlt : j < sn
  ·have g1 : decide ((j : Int) < (sn : Int)) = true:=by simp;omega
   obtain ⟨T,hT⟩:=aF (l:=ps) (j:=j) (by rw [← L3.out];exact hlt)
   obtain ⟨bb,off,rfl,hc⟩:=H3.out.get (aJ hT)
   obtain ⟨xa,xn,xc,xb,xm,xd,xs,xsn,xsc,xq,xqn,xqc,hx⟩:=hc j _ hT
   have hK:=aA hr.out.1
   have d0:=hK _ _ hx.c0;have d1:=hK _ _ hx.c1;have d2:=hK _ _ hx.c2;have d3:=hK _ _ hx.c3
   have d4:=hK _ _ hx.c4;have d5:=hK _ _ hx.c5;have d6:=hK _ _ hx.c6;have d7:=hK _ _ hx.c7
   have X : Hid (cU wr T (.agg #[str T.rule,.int .u8 T.form.op,str T.form.name,.slice xa xn xc,.slice xb xm xd,.int .i64 T.label,.slice xs xsn xsc,.slice xq xqn xqc])):=cU.keep ⟨_,_,_,_,_,_,_,_,_,_,_,_,rfl,hx.args,hx.parts,hx.sub,hx.marks⟩ hK
   have HM:=Hd (List.mem_of_getElem? hT)
   have N1:=jU hT
   have N2:=gY ps (j + 1)
   have RC:=Hd (H.out T HM.out wr _ X.out (by have:=gY ps j;omega))
   have BW:=Hd hr.out.1
   have RW:=Hd hr.out.2
   have wn : IntKind.i64.wrap (((1 + aE (ps.take j) : Nat) : Int) + (T.steps : Int)) = ((1 + aE (ps.take (j + 1)) : Nat) : Int):=by
    rw [show ((1 + aE (ps.take j) : Nat) : Int) + (T.steps : Int) = ((1 + aE (ps.take (j + 1)) : Nat) : Int) by omega]
    exact wrapR (by omega) (by omega)
   obtain ⟨M2,hM2⟩ : ∃ M2,1 + aE (ps.take (j + 1)) = M2:=⟨_,rfl⟩
   have HM2:=Hd hM2
   rw [hM2] at wn
   generalize 1 + aE (ps.take j) = M1 at *
   generalize (T.steps : Int) = M3 at *
   clear hc hx hT hK hr N1 N2 hM2
   go_wp2_with (go_at_call 185;refine RC.out.mono ?_;rintro e w3 ⟨rfl,v3⟩;have B3:=Hd (aB BW.out v3);have R3:=Hd (kc v3 RW.out);clear v3)
   go_roundw
   case rel=>exact ⟨j + 1,by omega,by go_num,by rw [HM2.out],B3.out,R3.out⟩
   case measure=>simp [intOf];omega
  ·have g1 : decide ((j : Int) < (sn : Int)) = false:=by simp;omega
   have e : ps.take j = ps:=List.take_of_length_le (by rw [← L3.out];omega)
   rw [e]
   have BW:=Hd hr.out.1
   clear hr
   go_wp2_with fail
   go_ret
   exact ⟨by simp;omega,BW.out⟩
mutual
theorem KE : ∀ t : Pf,StC t
 | .mk r f l ps ms=>steps_step r f l ps ms (CC ps)
theorem CC : ∀ l : List Pf,∀ t ∈ l,StC t
 | [],_,h=>by cases h
 | x :: xs,t,h=>by
  rcases List.mem_cons.1 h with e | e
  ·rw [e];exact KE x
  ·exact CC xs t e
end
structure Grow (v : Value) (w w' : World) (v' : Value) : Prop where
 os : w'.os = w.os
 tape : w'.tape = w.tape
 output : w'.output = w.output
 size : w.heap.size ≤ w'.heap.size
 block : ∀ k,k < w.heap.size → v.ownBlock ≠ some k → w'.heap[k]? = w.heap[k]?
 lies : v'.ownBlock = v.ownBlock ∨ ∃ g,v'.ownBlock = some g ∧ w.heap.size ≤ g
theorem Grow.refl (v : Value) (w : World) : Grow v w w v:=⟨rfl,rfl,rfl,Nat.le_refl _,fun _ _ _=>rfl,.inl rfl⟩
theorem Grow.trans {v v' v'' : Value} {w w' w'' : World} (h : Grow v w w' v') (k : Grow v' w' w'' v'') : Grow v w w'' v'':=by
 refine ⟨k.os.trans h.os,k.tape.trans h.tape,k.output.trans h.output,Nat.le_trans h.size k.size,fun i hi hv=>?_, ?_⟩
 ·refine (k.block i (Nat.lt_of_lt_of_le hi h.size) ?_).trans (h.block i hi hv)
  rcases h.lies with e | ⟨g,e,hg⟩
  ·rw [e];exact hv
  ·rw [e];intro e2;cases e2;omega
 ·rcases k.lies with e | ⟨g,e,hg⟩
  ·rw [e];exact h.lies
  ·exact .inr ⟨g,e,Nat.le_trans h.size hg⟩
theorem Grow.below {v v' : Value} {w w' w2 : World} (h : Grow v w w' v') (k : Below w'.heap.size w' w2) : Grow v w w2 v' :=
 ⟨k.os.trans h.os,k.tape.trans h.tape,k.output.trans h.output,Nat.le_trans h.size k.size,fun i hi hv=>(k.block i (Nat.lt_of_lt_of_le hi h.size)).trans (h.block i hi hv),h.lies⟩
theorem Grow.of_below {v : Value} {w w' : World} (k : Below w.heap.size w w') : Grow v w w' v:=(Grow.refl v w).below k
theorem Grow.of_grown {v v' : Value} {w w' : World} (hg : w.grownBy w' v.ownBlock) (hat : v'.ownBlock = v.ownBlock ∨ v'.ownBlock = some w.heap.size) : Grow v w w' v' :=
 ⟨hg.os,hg.tape,hg.output,hg.size,fun k hk hv=>hg.block k hk (fun e=>hv e.symm),hat.imp id fun e=>⟨_,e,Nat.le_refl _⟩⟩
theorem Grow.old {w0 w w' : World} {v v' : Value} {L : List Bs} (h : Grow v w w' v') (hw : Below w0.heap.size w0 w) (hL : aI w0.heap.size w L v) : Below w0.heap.size w0 w':=by
 refine hw.trans ⟨h.os,h.tape,h.output,h.size,fun k hk=>h.block k (Nat.lt_of_lt_of_le hk hw.size) ?_⟩
 intro e
 have:=(hL.lt k e).1
 omega
def fC (l : List Bs) : Bs:=if l.isEmpty then [] else fJ ++ aT cs l
theorem nN (sep : Bs) (x : Bs) : ∀ l : List Bs,l ≠ [] → aT sep (l ++ [x]) = aT sep l ++ sep ++ x
 | [],h=>absurd rfl h
 | [a],_=>by simp [aT]
 | a :: b :: l,_=>by
  have:=nN sep x (b :: l) (by simp)
  simp only [List.cons_append,aT] at this ⊢
  rw [this];simp
theorem fromText_snoc {l : List Bs} (h : l ≠ []) (x : Bs) : fC (l ++ [x]) = fC l ++ cs ++ x:=by
 have e : l.isEmpty = false:=by cases l with | nil=>exact absurd rfl h | cons _ _=>rfl
 unfold fC
 rw [e,nN _ _ _ h]
 simp
theorem fromText_one (x : Bs) : fC [x] = fJ ++ x:=by simp [fC,aT]
def eL (n : Nat) (l : List Int) : Bs:=itoa (n : Int) ++ (if l.isEmpty then [] else eD ++ aT eX (l.map itoa))
theorem lY (n : Nat) : eL n [] = itoa (n : Int):=by simp [eL]
theorem uW (n : Nat) (x : Int) : eL n [x] = itoa (n : Int) ++ eD ++ itoa x:=by simp [eL,aT]
theorem sE {n : Nat} {l : List Int} (h : l ≠ []) (x : Int) : eL n (l ++ [x]) = eL n l ++ eX ++ itoa x:=by
 have e : l.isEmpty = false:=by cases l with | nil=>exact absurd rfl h | cons _ _=>rfl
 have e2 : (l ++ [x]).isEmpty = false:=by cases l <;> rfl
 unfold eL
 rw [e,e2,List.map_append,List.map_cons,List.map_nil,nN _ _ _ (by simpa using h)]
 simp
theorem FZ (n : Nat) (m : List Int) : dY n m = eL n m:=by
 unfold dY eL
 cases m with
 | nil=>rfl
 | cons x m=>rw [lI,pA (by simp)]
theorem uV {n : Nat} (hn : n ≤ 1000000) {l : List Int} (hl : ∀ x ∈ l,0 ≤ x ∧ x ≤ 1000000) (h3 : l.length ≤ 3) : (eL n l).length ≤ 4000000:=by
 rw [← FZ]
 have h1:=eT (n:=(n : Int)) (by omega) (by omega)
 by_cases h0 : l = []
 ·rw [h0,qF];omega
 ·rw [uG _ h0]
  have:=pG hl h3
  simp only [List.length_append,eD,List.length_cons,List.length_nil];omega
theorem fromText_len {l : List Bs} (h : ∀ x ∈ l,x.length ≤ 4000000) (h4 : l.length ≤ 4) : (fC l).length ≤ 17000000:=by
 unfold fC
 split
 ·simp
 ·have h1:=joinBy_le' cs (by decide) l h
  have h2:=Nat.mul_le_mul_right 4000010 h4
  have h3 : fJ.length = 6:=rfl
  rw [List.length_append,h3];omega
def LinC (p : Pf) : Prop:=∀ (w0 w : World) (L : List Bs) (v x : Value),cU w0 p x → Below w0.heap.size w0 w → aI w0.heap.size w L v → p.ok = true → L.length + p.steps ≤ 100000 →
 Calls Tryz.prog 186 #[v,x] w fun e w'=>∃ v',e = .returned v' ∧ aI w0.heap.size w' (L ++ p.lines L.length) v' ∧ Grow v w w' v'
theorem lin_step (r : Bs) (f : Fm) (lb : Int) (ps : List Pf) (ms : List (List Int)) (hh : ∀ p ∈ ps,LinC p) : LinC (.mk r f lb ps ms):=by
 intro w0 w L v x hx hw hL hok hlim
 obtain ⟨va,vc,rfl⟩:=uD hL
 obtain ⟨a,k,c,a',m,d,s,sn,sc,q,qn,qc,rfl,h1,h2,h3,h4⟩:=hx
 simp only [Pf.rule,Pf.form,Pf.label,Pf.sub,Pf.marks] at *
 have hs:=h3.len
 have hq:=h4.len
 have hsl : sn ≤ 9223372036854775807:=by have:=le63 hs.2.2;omega
 have hql : qn ≤ 9223372036854775807:=by have:=le63 hq.2.2;omega
 have hstep : (Pf.mk r f lb ps ms).steps = aE ps + 1:=by simp [Pf.steps]
 simp only [Pf.ok,Bool.and_eq_true] at hok
 have OK:=Hd hok
 have SL:=Hd (rO hok.1.2)
 have SM:=Hd (fX hok.1.2)
 have LE:=Hd (kH ps)
 have sn4 : sn ≤ 4:=by
  have h5:=hok.1.2
  have h6:=hs.1
  unfold dF at h5
  split at h5
  ·simp only [Bool.and_eq_true,decide_eq_true_eq] at h5;omega
  ·split at h5
   ·simp only [Bool.and_eq_true,decide_eq_true_eq] at h5;omega
   ·simp only [Bool.and_eq_true,decide_eq_true_eq] at h5;omega
 have L3:=Hd hs.1
 have L4:=Hd hq.1
 have H:=Hd hh
 have HW:=Hd hw
 have HL:=Hd hL
 have H1:=Hd h1
 have H2:=Hd h2
 have H3:=Hd h3
 have H4:=Hd h4
 have hlim2 : L.length + aE ps + 1 ≤ 100000:=by omega
 have FR:=Hd hok.1.1
 have TL:=(gZ hok.1.1).2
 have TX : Hid (∀ W,Below w0.heap.size w0 W → Calls Tryz.prog 131 #[.agg #[.int .u8 f.op,str f.name,.slice a k c,.slice a' m d]] W (Rt (str f.text) W)):=fun W hW =>
  BP f w0 W _ ⟨_,_,_,_,_,_,rfl,H1.out,H2.out⟩ hW (fD FR.out) (by omega)
 have PR : Hid (∀ x ∈ aO L.length ps ms,x.length ≤ 4000000):=uH ps L.length ms SM.out (by omega)
 obtain ⟨i0,hi0,hz0,hs0,hb0⟩:=info_parts sP
 have WB : Hid (Below w.heap.size w (w.alloc (.cells #[str r,.int .u8 f.op,str f.name,.slice a k c,.slice a' m d,.int .i64 lb,.slice s sn sc,.slice q qn qc] 53))):=bnew
 have BX : Hid ((w.alloc (.cells #[str r,.int .u8 f.op,str f.name,.slice a k c,.slice a' m d,.int .i64 lb,.slice s sn sc,.slice q qn qc] 53)).heap[w.heap.size]? = some (.cells #[str r,.int .u8 f.op,str f.name,.slice a k c,.slice a' m d,.int .i64 lb,.slice s sn sc,.slice q qn qc] 53)):=heap_alloc_new w _
 have VO : Hid (∀ g,(Value.slice va L.length vc).ownBlock = some g → w0.heap.size ≤ g ∧ g < w.heap.size):=fun g hg=>⟨(hL.lt g hg).1,(hL.lt g hg).2⟩
 clear hs hq hok hh hw h1 h2 h3 h4 hlim
 go_enter Tryz.func186,Tryz.ntmps186
 go_wp2_with fail
 have S1 : Hid ((w.alloc (.cells #[str r,.int .u8 f.op,str f.name,.slice a k c,.slice a' m d,.int .i64 lb,.slice s sn sc,.slice q qn qc] 53)).heap.size = w.heap.size + 1):=by show _ = _;simp
 have HW1 : Hid (Below w0.heap.size w0 (w.alloc (.cells #[str r,.int .u8 f.op,str f.name,.slice a k c,.slice a' m d,.int .i64 lb,.slice s sn sc,.slice q qn qc] 53))):=HW.out.trans (WB.out.mono HW.out.size)
 have HL1 : Hid (aI w0.heap.size (w.alloc (.cells #[str r,.int .u8 f.op,str f.name,.slice a k c,.slice a' m d,.int .i64 lb,.slice s sn sc,.slice q qn qc] 53)) L (.slice va L.length vc)):=aI.below HL.out WB.out
 generalize hW : w.alloc (.cells #[str r,.int .u8 f.op,str f.name,.slice a k c,.slice a' m d,.int .i64 lb,.slice s sn sc,.slice q qn qc] 53) = W1 at *
 clear hW
 go_loopw [0,5,6] (fun u g i wr=>∃ (j : Nat) (F : Bs),j ≤ sn ∧ i = .int .i64 j ∧ g = str F ∧ Hid (F = fC ((aO L.length ps ms).take j)) ∧ Hid (aI w0.heap.size wr (L ++ cE L.length (ps.take j)) u ∧ Grow (.slice va L.length vc) W1 wr u)) (fun _ _ i _=>sn - (intOf i).toNat)
 case atStart=>exact ⟨0,[],Nat.zero_le _,rfl,rfl,by simp [fC];trivial,by simpa [cE] using HL1.out,Grow.refl _ _⟩
 case round =>
  obtain ⟨j,F,hj,rfl,rfl,hF,hr⟩:=hrel
  have RW : Hid (wr.heap[w.heap.size]? = some (.cells #[str r,.int .u8 f.op,str f.name,.slice a k c,.slice a' m d,.int .i64 lb,.slice s sn sc,.slice q qn qc] 53)):=(hr.out.2.block _ (by have:=S1.out;omega) (fun e=>by have:=(VO.out _ e).2;omega)).trans BX.out
  have BW : Hid (Below w0.heap.size w0 wr):=hr.out.2.old HW1.out HL1.out
  obtain ⟨c0,c1,c2,c3,c4,c5,c6,c7⟩:=row53' RW.out
  have FL : F.length ≤ 17000000:=by rw [hF.out];exact fromText_len (fun x hx=>PR.out x (List.mem_of_mem_take hx)) (by rw [List.length_take,dH,← L3.out];omega)
  have OWR:=Hd hr.out.1
  have GWR:=Hd hr.out.2
  clear hr
  by_cases hlt : j < sn
  ·have g1 : decide ((j : Int) < (sn : Int)) = true:=by simp;omega
   obtain ⟨T,hT⟩:=aF (l:=ps) (j:=j) (by rw [← L3.out];exact hlt)
   obtain ⟨M,hM⟩:=aF (l:=ms) (j:=j) (by rw [SL.out,← L3.out];exact hlt)
   obtain ⟨bb,off,rfl,hc⟩:=H3.out.get (aJ hT)
   obtain ⟨xa,xn,xc,xb,xm,xd,xs,xsn,xsc,xq,xqn,xqc,hx⟩:=hc j _ hT
   obtain ⟨mb,moff,rfl,hmc⟩:=H4.out.get (aJ hM)
   obtain ⟨y,yn,yc,hyc,hy⟩:=hmc j _ hM
   have jq : j < qn:=by have h5:=L4.out;have h6:=SL.out;have h7:=L3.out;omega
   have hK:=aA BW.out
   have d0:=hK _ _ hx.c0;have d1:=hK _ _ hx.c1;have d2:=hK _ _ hx.c2;have d3:=hK _ _ hx.c3
   have d4:=hK _ _ hx.c4;have d5:=hK _ _ hx.c5;have d6:=hK _ _ hx.c6;have d7:=hK _ _ hx.c7
   have X : Hid (cU w0 T (.agg #[str T.rule,.int .u8 T.form.op,str T.form.name,.slice xa xn xc,.slice xb xm xd,.int .i64 T.label,.slice xs xsn xsc,.slice xq xqn xqc])):=⟨_,_,_,_,_,_,_,_,_,_,_,_,rfl,hx.args,hx.parts,hx.sub,hx.marks⟩
   have HM:=Hd (List.mem_of_getElem? hT)
   have N1:=Hd (jU hT)
   have N2:=gY ps (j + 1)
   have PN:=Hd (mH ps L.length j T hT)
   have QN:=Hd (lM ps L.length j ms T M hT hM)
   have HY:=Hd hy
   have YC:=Hd hyc
   have YL:=Hd hy.len.1
   have MM:=Hd (SM.out M (List.mem_of_getElem? hM))
   have y3 : yn ≤ 3:=by have:=YL.out;have:=MM.out.1;omega
   have LN0 : Hid ((L ++ cE L.length (ps.take j)).length = L.length + aE (ps.take j)):=by show _ = _;rw [List.length_append,dT]
   have RC : Hid (Calls Tryz.prog 186 #[u0,.agg #[str T.rule,.int .u8 T.form.op,str T.form.name,.slice xa xn xc,.slice xb xm xd,.int .i64 T.label,.slice xs xsn xsc,.slice xq xqn xqc]] wr fun e w'=>∃ ya yc,e = .returned (.slice ya (L.length + aE (ps.take (j + 1))) yc) ∧ aI w0.heap.size w' (L ++ cE L.length (ps.take (j + 1))) (.slice ya (L.length + aE (ps.take (j + 1))) yc) ∧ Grow u0 wr w' (.slice ya (L.length + aE (ps.take (j + 1))) yc)):=by
    refine (H.out T HM.out w0 wr _ u0 _ X.out BW.out OWR.out (qE OK.out.2 T HM.out) (by have:=LN0.out;have:=N1.out;omega)).mono ?_
    rintro e w' ⟨v',rfl,o',g'⟩
    rw [LN0.out,List.append_assoc,← PN.out] at o'
    obtain ⟨ya,yc,rfl⟩:=uD o'
    rw [List.length_append,dT] at *
    exact ⟨ya,yc,rfl,o',g'⟩
   obtain ⟨N,hN⟩ : ∃ N,L.length + aE (ps.take (j + 1)) = N:=⟨_,rfl⟩
   have nb : N ≤ 1000000:=by omega
   have hN2 : Hid (L.length + aE (ps.take j) + T.steps = N):=by show _ = _;have:=N1.out;omega
   rw [hN] at RC
   have QN2 : Hid ((aO L.length ps ms).take (j + 1) = (aO L.length ps ms).take j ++ [eL N M]):=by show _ = _;rw [QN.out,hN2.out,FZ]
   have DN : Hid (Calls Tryz.prog 73 #[.int .i64 (N : Int)] = Calls Tryz.prog 73 #[.int .i64 (N : Int)]):=rfl
   have DG : Hid (∀ W,Calls Tryz.prog 73 #[.int .i64 (N : Int)] W fun e w'=>e = .returned (str (itoa (N : Int))) ∧ W = w'):=fun W=>mO N (by omega) (by omega) W
   have iN:=eT (n:=(N : Int)) (by omega) (by omega)
   have NE : Hid (0 < j → (aO L.length ps ms).take j ≠ []):=fun h0 e=>by
    have h5:=congrArg List.length e
    rw [List.length_take,dH,← L3.out] at h5
    simp at h5;omega
   clear hc hx hT hM hmc hyc hy hK N2 PN QN DN hN hN2
   by_cases j0 : j = 0
   ·have t0 : ((j : Int) == 0) = true:=by simp;omega
    have QN3 : Hid (fJ ++ eL N M = fC ((aO L.length ps ms).take (j + 1))):=by show _ = _;rw [QN2.out,j0,List.take_zero,List.nil_append,fromText_one]
    clear j0
    have SA : Hid (Value.string ((⟨#[32,102,114,111,109,32]⟩ : ByteArray) ++ ⟨(itoa (N : Int)).toArray⟩) = str (fJ ++ itoa (N : Int))):=by show _ = _;simp only [str,fJ,cs,Value.string.injEq];apply ByteArray.ext;simp
    have nl1 : ¬ 9223372036854775807 < 6 + List.length (itoa (N : Int)):=by omega
    go_wp2_with (first | (go_at_call 186;refine RC.out.mono ?_;rintro e w3 ⟨ya,yc2,rfl,o3,g3⟩;have O3:=Hd o3;have G3:=Hd (GWR.out.trans g3);clear o3 g3) | (go_at_call 73;refine (DG.out _).mono ?_;rintro e wd ⟨rfl,rfl⟩))
    have RW3 : Hid (w3.heap[w.heap.size]? = some (.cells #[str r,.int .u8 f.op,str f.name,.slice a k c,.slice a' m d,.int .i64 lb,.slice (some ⟨bb,off,none⟩) sn sc,.slice (some ⟨mb,moff,none⟩) qn qc] 53)):=(G3.out.block _ (by have:=S1.out;omega) (fun e=>by have:=(VO.out _ e).2;omega)).trans BX.out
    have BW3 : Hid (Below w0.heap.size w0 w3):=G3.out.old HW1.out HL1.out
    have e0:=aA BW3.out _ _ YC.out
    clear c0 c1 c2 c3 c4 c5 c6 c7 d0 d1 d2 d3 d4 d5 d6 d7
    obtain ⟨c0,c1,c2,c3,c4,c5,c6,c7⟩:=row53' RW3.out
    go_loopw [5,7] (fun g i wx=>∃ (t : Nat) (E : Bs),t ≤ yn ∧ i = .int .i64 t ∧ g = str E ∧ w3 = wx ∧ Hid (E = fJ ++ eL N (M.take t))) (fun _ i _=>yn - (intOf i).toNat)
    case atStart=>exact ⟨0,fJ ++ itoa (N : Int),Nat.zero_le _,rfl,SA.out,rfl,by show _ = _;rw [List.take_zero,lY]⟩
    case round =>
     obtain ⟨t,E,ht,rfl,rfl,rfl,hE⟩:=hrel
     have EL : E.length ≤ 30000000:=by
      rw [hE.out,List.length_append]
      have h5:=uV nb (l:=M.take t) (fun x hx=>MM.out.2 x (List.mem_of_mem_take hx)) (by rw [List.length_take];have:=MM.out.1;omega)
      have h6 : (fJ).length ≤ 17000002:=by first | (simp [fJ];done) | (rw [List.length_append];simp only [cs,List.length_cons,List.length_nil];omega)
      omega
     by_cases hlt2 : t < yn
     ·have g6 : decide ((t : Int) < (yn : Int)) = true:=by simp;omega
      obtain ⟨x,hxx⟩:=aF (l:=M) (j:=t) (by rw [← YL.out];exact hlt2)
      obtain ⟨yb,yo,rfl,hcy⟩:=HY.out.get (aJ hxx)
      have f0:=aA BW3.out _ _ (hcy t x hxx)
      have xb:=MM.out.2 x (List.mem_of_getElem? hxx)
      have DX : Hid (∀ W,Calls Tryz.prog 73 #[.int .i64 x] W fun e w'=>e = .returned (str (itoa x)) ∧ W = w'):=fun W=>mO x xb.1 xb.2 W
      have ix:=eT xb.1 xb.2
      have TS : Hid (M.take (t + 1) = M.take t ++ [x]):=by show _ = _;rw [List.take_add_one,hxx];rfl
      by_cases t00 : t = 0
      ·have t01 : ((t : Int) == 0) = true:=by simp;omega
       have EN : Hid (E ++ eD ++ itoa x = fJ ++ eL N (M.take (t + 1))):=by show _ = _;rw [TS.out,hE.out,t00,List.take_zero,List.nil_append,lY,uW];simp
       have nl2 : ¬ 9223372036854775807 < List.length E + 8:=by omega
       have nl3 : ¬ 9223372036854775807 < List.length E + 8 + List.length (itoa x):=by omega
       clear hcy hxx hE t00
       go_wp2_with (go_at_call 73;refine (DX.out _).mono ?_;rintro e wd ⟨rfl,rfl⟩)
       go_roundw
       case rel=>exact ⟨t + 1,E ++ eD ++ itoa x,by omega,by go_num,by simp only [str,eD,Value.string.injEq];apply ByteArray.ext;simp,trivial,EN.out⟩
       case measure=>simp [intOf];omega
      ·have t01 : ((t : Int) == 0) = false:=by simp;omega
       have NT : M.take t ≠ []:=by
        intro h5
        have h6 : (M.take t).length = t:=by rw [List.length_take];have:=YL.out;omega
        rw [h5] at h6;simp at h6;omega
       have EN : Hid (E ++ eX ++ itoa x = fJ ++ eL N (M.take (t + 1))):=by show _ = _;rw [TS.out,hE.out,sE NT];simp
       have nl2 : ¬ 9223372036854775807 < List.length E + 5:=by omega
       have nl3 : ¬ 9223372036854775807 < List.length E + 5 + List.length (itoa x):=by omega
       clear hcy hxx hE NT
       go_wp2_with (go_at_call 73;refine (DX.out _).mono ?_;rintro e wd ⟨rfl,rfl⟩)
       go_roundw
       case rel=>exact ⟨t + 1,E ++ eX ++ itoa x,by omega,by go_num,by simp only [str,eX,Value.string.injEq];apply ByteArray.ext;simp,trivial,EN.out⟩
       case measure=>simp [intOf];omega
     ·have g6 : decide ((t : Int) < (yn : Int)) = false:=by simp;omega
      have EE : Hid (E = fC ((aO L.length ps ms).take (j + 1))):=by
       show _ = _
       rw [hE.out,← QN3.out,List.take_of_length_le (by rw [← YL.out];omega)]
      have O4 : Hid (aI w0.heap.size w3 (L ++ cE L.length (ps.take (j + 1))) (.slice ya N yc2)):=O3.out
      clear hE
      go_wp2_with fail
      go_roundw
      case rel=>exact ⟨j + 1,E,by omega,by go_num,rfl,EE.out,O4.out,G3.out⟩
      case measure=>simp [intOf];omega
   ·have t0 : ((j : Int) == 0) = false:=by simp;omega
    have QN3 : Hid ((F ++ cs) ++ eL N M = fC ((aO L.length ps ms).take (j + 1))):=by show _ = _;rw [QN2.out,fromText_snoc (NE.out (by omega)),hF.out]
    have nl0 : ¬ 9223372036854775807 < List.length F + 2:=by omega
    have SA : Hid (Value.string (((⟨F.toArray⟩ ++ ⟨#[44,32]⟩) : ByteArray) ++ ⟨(itoa (N : Int)).toArray⟩) = str ((F ++ cs) ++ itoa (N : Int))):=by show _ = _;simp only [str,fJ,cs,Value.string.injEq];apply ByteArray.ext;simp
    have nl1 : ¬ 9223372036854775807 < List.length F + 2 + List.length (itoa (N : Int)):=by omega
    go_wp2_with (first | (go_at_call 186;refine RC.out.mono ?_;rintro e w3 ⟨ya,yc2,rfl,o3,g3⟩;have O3:=Hd o3;have G3:=Hd (GWR.out.trans g3);clear o3 g3) | (go_at_call 73;refine (DG.out _).mono ?_;rintro e wd ⟨rfl,rfl⟩))
    have RW3 : Hid (w3.heap[w.heap.size]? = some (.cells #[str r,.int .u8 f.op,str f.name,.slice a k c,.slice a' m d,.int .i64 lb,.slice (some ⟨bb,off,none⟩) sn sc,.slice (some ⟨mb,moff,none⟩) qn qc] 53)):=(G3.out.block _ (by have:=S1.out;omega) (fun e=>by have:=(VO.out _ e).2;omega)).trans BX.out
    have BW3 : Hid (Below w0.heap.size w0 w3):=G3.out.old HW1.out HL1.out
    have e0:=aA BW3.out _ _ YC.out
    clear c0 c1 c2 c3 c4 c5 c6 c7 d0 d1 d2 d3 d4 d5 d6 d7
    obtain ⟨c0,c1,c2,c3,c4,c5,c6,c7⟩:=row53' RW3.out
    go_loopw [5,7] (fun g i wx=>∃ (t : Nat) (E : Bs),t ≤ yn ∧ i = .int .i64 t ∧ g = str E ∧ w3 = wx ∧ Hid (E = (F ++ cs) ++ eL N (M.take t))) (fun _ i _=>yn - (intOf i).toNat)
    case atStart=>exact ⟨0,(F ++ cs) ++ itoa (N : Int),Nat.zero_le _,rfl,SA.out,rfl,by show _ = _;rw [List.take_zero,lY]⟩
    case round =>
     obtain ⟨t,E,ht,rfl,rfl,rfl,hE⟩:=hrel
     have EL : E.length ≤ 30000000:=by
      rw [hE.out,List.length_append]
      have h5:=uV nb (l:=M.take t) (fun x hx=>MM.out.2 x (List.mem_of_mem_take hx)) (by rw [List.length_take];have:=MM.out.1;omega)
      have h6 : ((F ++ cs)).length ≤ 17000002:=by first | (simp [fJ];done) | (rw [List.length_append];simp only [cs,List.length_cons,List.length_nil];omega)
      omega
     by_cases hlt2 : t < yn
     ·have g6 : decide ((t : Int) < (yn : Int)) = true:=by simp;omega
      obtain ⟨x,hxx⟩:=aF (l:=M) (j:=t) (by rw [← YL.out];exact hlt2)
      obtain ⟨yb,yo,rfl,hcy⟩:=HY.out.get (aJ hxx)
      have f0:=aA BW3.out _ _ (hcy t x hxx)
      have xb:=MM.out.2 x (List.mem_of_getElem? hxx)
      have DX : Hid (∀ W,Calls Tryz.prog 73 #[.int .i64 x] W fun e w'=>e = .returned (str (itoa x)) ∧ W = w'):=fun W=>mO x xb.1 xb.2 W
      have ix:=eT xb.1 xb.2
      have TS : Hid (M.take (t + 1) = M.take t ++ [x]):=by show _ = _;rw [List.take_add_one,hxx];rfl
      by_cases t00 : t = 0
      ·have t01 : ((t : Int) == 0) = true:=by simp;omega
       have EN : Hid (E ++ eD ++ itoa x = (F ++ cs) ++ eL N (M.take (t + 1))):=by show _ = _;rw [TS.out,hE.out,t00,List.take_zero,List.nil_append,lY,uW];simp
       have nl2 : ¬ 9223372036854775807 < List.length E + 8:=by omega
       have nl3 : ¬ 9223372036854775807 < List.length E + 8 + List.length (itoa x):=by omega
       clear hcy hxx hE t00
       go_wp2_with (go_at_call 73;refine (DX.out _).mono ?_;rintro e wd ⟨rfl,rfl⟩)
       go_roundw
       case rel=>exact ⟨t + 1,E ++ eD ++ itoa x,by omega,by go_num,by simp only [str,eD,Value.string.injEq];apply ByteArray.ext;simp,trivial,EN.out⟩
       case measure=>simp [intOf];omega
      ·have t01 : ((t : Int) == 0) = false:=by simp;omega
       have NT : M.take t ≠ []:=by
        intro h5
        have h6 : (M.take t).length = t:=by rw [List.length_take];have:=YL.out;omega
        rw [h5] at h6;simp at h6;omega
       have EN : Hid (E ++ eX ++ itoa x = (F ++ cs) ++ eL N (M.take (t + 1))):=by show _ = _;rw [TS.out,hE.out,sE NT];simp
       have nl2 : ¬ 9223372036854775807 < List.length E + 5:=by omega
       have nl3 : ¬ 9223372036854775807 < List.length E + 5 + List.length (itoa x):=by omega
       clear hcy hxx hE NT
       go_wp2_with (go_at_call 73;refine (DX.out _).mono ?_;rintro e wd ⟨rfl,rfl⟩)
       go_roundw
       case rel=>exact ⟨t + 1,E ++ eX ++ itoa x,by omega,by go_num,by simp only [str,eX,Value.string.injEq];apply ByteArray.ext;simp,trivial,EN.out⟩
       case measure=>simp [intOf];omega
     ·have g6 : decide ((t : Int) < (yn : Int)) = false:=by simp;omega
      have EE : Hid (E = fC ((aO L.length ps ms).take (j + 1))):=by
       show _ = _
       rw [hE.out,← QN3.out,List.take_of_length_le (by rw [← YL.out];omega)]
      have O4 : Hid (aI w0.heap.size w3 (L ++ cE L.length (ps.take (j + 1))) (.slice ya N yc2)):=O3.out
      clear hE
      go_wp2_with fail
      go_roundw
      case rel=>exact ⟨j + 1,E,by omega,by go_num,rfl,EE.out,O4.out,G3.out⟩
      case measure=>simp [intOf];omega
  ·have g1 : decide ((j : Int) < (sn : Int)) = false:=by simp;omega
   have EP : Hid (F = fC (aO L.length ps ms)):=by show _ = _;rw [hF.out,List.take_of_length_le (by rw [dH,← L3.out];omega)]
   have ET : ps.take j = ps:=List.take_of_length_le (by rw [← L3.out];omega)
   rw [ET] at OWR
   have NB : Hid (∀ g,(u0 : Value).ownBlock = some g → g ≠ w.heap.size):=fun g hg e=>by
    rcases GWR.out.lies with h | ⟨g',h,hg'⟩
    ·rw [h] at hg;have:=(VO.out g hg).2;omega
    ·rw [h] at hg;cases hg;have:=S1.out;omega
   obtain ⟨LL,hLL⟩ : ∃ LL,L ++ cE L.length ps = LL:=⟨_,rfl⟩
   obtain ⟨N,hN⟩ : ∃ N,L.length + aE ps = N:=⟨_,rfl⟩
   have nb : N ≤ 100000:=by omega
   have NL : Hid (LL.length = N):=by show _ = _;rw [← hLL,List.length_append,dT];exact hN
   rw [hLL] at OWR
   obtain ⟨ya,yc,hu⟩:=uD OWR.out
   rw [NL.out] at hu
   subst hu
   have LNE : Hid (∀ T,bS r f lb (aO L.length ps ms) = T → L ++ (Pf.mk r f lb ps ms).lines L.length = LL ++ [itoa ((N : Int) + 1) ++ eE ++ T]):=fun T hT=>by
    rw [← hLL,← hT,← hN]
    simp [Pf.lines]
   have DN : Hid (∀ W,Calls Tryz.prog 73 #[.int .i64 ((N : Int) + 1)] W fun e w'=>e = .returned (str (itoa ((N : Int) + 1))) ∧ W = w'):=fun W=>mO _ (by omega) (by omega) W
   have iN:=eT (n:=(N : Int) + 1) (by omega) (by omega)
   have C3 : Hid (LL.length + 1 ≤ maxLen ∧ (LL.length + 1) * 16 ≤ 140737488355328):=by rw [NL.out];exact ⟨by unfold maxLen;omega,by omega⟩
   have GW : Hid (Grow (.slice va L.length vc) w wr (.slice ya N yc)):=(Grow.of_below WB.out).trans GWR.out
   have WS : Hid (w0.heap.size ≤ wr.heap.size):=BW.out.size
   have ws4 : w.heap.size < wr.heap.size:=(Array.getElem?_eq_some_iff.1 RW.out).1
   have D1 : Hid (Below wr.heap.size wr wr.drew):=(Below.refl _ _).drew
   clear hF ET hLL hN
   generalize itoa ((N : Int) + 1) = PN at *
   obtain ⟨X,hX⟩ : ∃ X,f.text = X:=⟨_,rfl⟩
   rw [hX] at TX TL
   have HX:=Hd hX
   clear hX
   by_cases r0 : r = []
   ·subst r0
    have lbb : 1 ≤ lb ∧ lb ≤ 999:=by
     have h5:=OK.out.1.2
     unfold dF at h5
     rw [if_pos rfl] at h5
     simp only [Bool.and_eq_true,decide_eq_true_eq] at h5
     exact h5.2
    have DL : Hid (∀ W,Calls Tryz.prog 73 #[.int .i64 lb] W fun e w'=>e = .returned (str (itoa lb)) ∧ W = w'):=fun W=>mO lb (by omega) (by omega) W
    have il:=eT (n:=lb) (by omega) (by omega)
    have BT : Hid (bS [] f lb (aO L.length ps ms) = eC ++ itoa lb ++ cs ++ f.text):=by show _ = _;unfold bS;rw [if_pos rfl]
    have nl1 : ¬ 9223372036854775807 < List.length PN + 2:=by omega
    have nl2 : ¬ 9223372036854775807 < List.length PN + 2 + 7:=by omega
    have nl3 : ¬ 9223372036854775807 < List.length PN + 2 + 7 + List.length (itoa lb):=by omega
    have nl4 : ¬ 9223372036854775807 < List.length PN + 2 + 7 + List.length (itoa lb) + 2:=by omega
    have nl5 : ¬ 9223372036854775807 < List.length PN + 2 + 7 + List.length (itoa lb) + 2 + List.length X:=by omega
    go_wp2_with (go_at_call 73;refine (DN.out _).mono ?_;rintro e wd ⟨rfl,rfl⟩)
    have hS0 : wr.drew.heap[w.heap.size]? = some (.cells #[str [],.int .u8 f.op,str f.name,.slice a k c,.slice a' m d,.int .i64 lb,.slice s sn sc,.slice q qn qc] 53):=RW.out
    refine wp_region_held_drew (S:=fun w'=>w'.heap[w.heap.size]? = some (.cells #[str [],.int .u8 f.op,str f.name,.slice a k c,.slice a' m d,.int .i64 lb,.slice s sn sc,.slice q qn qc] 53)) (by kernel_rfl) hS0 (fun hHeld=>?_)
    refine tk 0 ?_
    try simp only [Act.put,s1,s2,s3,s4,s5,s6]
    refine tk 1 ?_
    try simp only [Act.put,s1,s2,s3,s4,s5,s6]
    refine tk 2 ?_
    try simp only [Act.put,s1,s2,s3,s4,s5,s6]
    refine tk 3 ?_
    try simp only [Act.put,s1,s2,s3,s4,s5,s6]
    refine tk 4 ?_ (hv:=by intro w0 hSw;obtain ⟨z0,z1,z2,z3,z4,z5,z6,z7⟩:=row53' hSw;go_simp;try with_reducible rfl)
    try simp only [Act.put,s1,s2,s3,s4,s5,s6]
    refine tk 8 ?_
    try simp only [Act.put,s1,s2,s3,s4,s5,s6]
    refine tk 9 ?_ (hv:=by intro w0 hSw;obtain ⟨z0,z1,z2,z3,z4,z5,z6,z7⟩:=row53' hSw;go_simp;try with_reducible rfl)
    try simp only [Act.put,s1,s2,s3,s4,s5,s6]
    refine rd 5 (fun K hK=>?_)
    go_simp
    go_at_call 73
    refine (DL.out _).mono ?_
    rintro e wd ⟨rfl,rfl⟩
    have hSn:=hS0
    go_simp
    refine hK.out _ _ hSn (fun _=>?_)
    clear hK K
    try simp only [Act.put,s1,s2,s3,s4,s5,s6]
    refine tk 6 ?_
    try simp only [Act.put,s1,s2,s3,s4,s5,s6]
    refine tk 7 ?_
    try simp only [Act.put,s1,s2,s3,s4,s5,s6]
    refine rd 10 (fun K hK=>?_)
    go_simp
    go_at_call 131
    refine (TX.out _ (aB BW.out D1.out)).mono ?_
    rintro e w4 ⟨rfl,b4⟩
    have B4:=Hd (aB D1.out b4)
    have hSn:=kc b4 hS0
    have hS4:=hSn
    clear b4
    go_simp
    refine hK.out _ _ hSn (fun _=>?_)
    clear hK K
    try simp only [Act.put,s1,s2,s3,s4,s5,s6]
    have SS : Hid (Value.string ((⟨PN.toArray⟩ : ByteArray) ++ ⟨#[58,32]⟩ ++ ⟨#[97,115,115,117,109,101,32]⟩ ++ ⟨(itoa lb).toArray⟩ ++ ⟨#[44,32]⟩ ++ ⟨X.toArray⟩) = str (PN ++ eE ++ (eC ++ itoa lb ++ cs ++ X))):=by show _ = _;simp only [str,eE,eC,cs,Value.string.injEq];apply ByteArray.ext;simp
    have NW : Hid (∀ (j : Nat) (u : Value),([.string ((⟨PN.toArray⟩ : ByteArray) ++ ⟨#[58,32]⟩ ++ ⟨#[97,115,115,117,109,101,32]⟩ ++ ⟨(itoa lb).toArray⟩ ++ ⟨#[44,32]⟩ ++ ⟨X.toArray⟩)] : List Value)[j]? = some u → (w4.alloc (.cells #[.string ((⟨PN.toArray⟩ : ByteArray) ++ ⟨#[58,32]⟩ ++ ⟨#[97,115,115,117,109,101,32]⟩ ++ ⟨(itoa lb).toArray⟩ ++ ⟨#[44,32]⟩ ++ ⟨X.toArray⟩)] 9)).cell? ((⟨w4.heap.size,0,none⟩ : Addr).add j) = some u):=IA w4 _
    have OW4 : Hid (aI w0.heap.size w4 LL (.slice ya N yc)):=aI.below OWR.out B4.out
    have wr4 : w.heap.size < w4.heap.size:=(Array.getElem?_eq_some_iff.1 hS4).1
    have WS4 : Hid (w0.heap.size ≤ (w4.alloc (.cells #[.string ((⟨PN.toArray⟩ : ByteArray) ++ ⟨#[58,32]⟩ ++ ⟨#[97,115,115,117,109,101,32]⟩ ++ ⟨(itoa lb).toArray⟩ ++ ⟨#[44,32]⟩ ++ ⟨X.toArray⟩)] 9)).heap.size):=by have h5:=WS.out;have h6:=B4.out.size;show _ ≤ _;simp;omega
    refine tk 11 ?_
    try simp only [Act.put,s1,s2,s3,s4,s5,s6]
    refine rd 12 (fun K hK=>?_)
    go_simp
    refine hK.out _ _ ((bnew.block _ wr4).trans hS4) (fun _=>?_)
    clear hK K
    try simp only [Act.put,s1,s2,s3,s4,s5,s6]
    refine rd 13 (fun K hK=>?_)
    refine iH rfl _ _ 36 rfl w0.heap.size 9 i0 (.string ⟨#[]⟩) 1 16 Tryz.underlying36 hi0 hz0 hs0 hb0 rfl (by decide) _ _ _ rfl (OW4.out.alloc _) ⟨w4.heap.size,0,none⟩ 1 1 [.string ((⟨PN.toArray⟩ : ByteArray) ++ ⟨#[58,32]⟩ ++ ⟨#[97,115,115,117,109,101,32]⟩ ++ ⟨(itoa lb).toArray⟩ ++ ⟨#[44,32]⟩ ++ ⟨X.toArray⟩)] rfl rfl NW.out (by intro u hu;simp at hu;subst hu;rfl) C3.out.1 C3.out.2 WS4.out ?_
    intro v5 w5 hown2 hg2 hat2
    have hg5 : w5.heap[w.heap.size]? = some (.cells #[str [],.int .u8 f.op,str f.name,.slice a k c,.slice a' m d,.int .i64 lb,.slice s sn sc,.slice q qn qc] 53):=(hg2.block _ (by simp;omega) (fun e=>absurd rfl (NB.out _ e.symm))).trans ((bnew.block _ wr4).trans hS4)
    have R5 : Hid (aI w0.heap.size w5 (L ++ (Pf.mk [] f lb ps ms).lines L.length) v5 ∧ Grow (.slice va L.length vc) w w5 v5):=by
     refine ⟨?_,((GW.out.below B4.out).below bnew).trans (Grow.of_grown hg2 hat2)⟩
     rw [LNE.out (eC ++ itoa lb ++ cs ++ X) (by rw [← HX.out];exact BT.out)]
     unfold aI
     rw [List.length_append,List.map_append]
     rw [SS.out] at hown2
     exact hown2
    clear hown2 hg2 hat2
    refine hK.out _ _ hg5 (fun _=>?_)
    clear hK K
    try simp only [Act.put,s1,s2,s3,s4,s5,s6]
    refine rd 14 (fun K hK=>?_)
    go_simp
    refine hK.out _ _ hg5 (fun _=>?_)
    clear hK K
    try simp only [Act.put,s1,s2,s3,s4,s5,s6]
    refine wpAnyH_done (by kernel_rfl) ?_ _
    go_wp2_with fail
    go_ret
    exact ⟨_,rfl,R5.out.1,R5.out.2⟩
   ·by_cases r1 : r = hole
    ·subst r1
     unfold hole at *
     have BT : Hid (bS [63] f lb (aO L.length ps ms) = f.text ++ pR):=by show _ = _;unfold bS;rw [if_neg (by decide),if_pos (show ([63] : Bs) = hole from rfl)]
     have nl1 : ¬ 9223372036854775807 < List.length PN + 2:=by omega
     have nl2 : ¬ 9223372036854775807 < List.length PN + 2 + List.length X:=by omega
     have nl3 : ¬ 9223372036854775807 < List.length PN + 2 + List.length X + 15:=by omega
     have SS : Hid (Value.string ((⟨PN.toArray⟩ : ByteArray) ++ ⟨#[58,32]⟩ ++ ⟨X.toArray⟩ ++ ⟨#[44,32,115,116,105,108,108,32,116,111,32,115,104,111,119]⟩) = str (PN ++ eE ++ (X ++ pR))):=by show _ = _;simp only [str,eE,pR,Value.string.injEq];apply ByteArray.ext;simp
     go_wp2_with (first | (go_at_call 73;refine (DN.out _).mono ?_;rintro e wd ⟨rfl,rfl⟩) | (go_at_call 131;refine (TX.out _ BW.out).mono ?_;rintro e w4 ⟨rfl,b4⟩;have B4:=Hd b4;have NW : Hid (∀ (j : Nat) (u : Value),([.string ((⟨PN.toArray⟩ : ByteArray) ++ ⟨#[58,32]⟩ ++ ⟨X.toArray⟩ ++ ⟨#[44,32,115,116,105,108,108,32,116,111,32,115,104,111,119]⟩)] : List Value)[j]? = some u → (w4.alloc (.cells #[.string ((⟨PN.toArray⟩ : ByteArray) ++ ⟨#[58,32]⟩ ++ ⟨X.toArray⟩ ++ ⟨#[44,32,115,116,105,108,108,32,116,111,32,115,104,111,119]⟩)] 9)).cell? ((⟨w4.heap.size,0,none⟩ : Addr).add j) = some u):=(IA w4 _);have OW4 : Hid (aI w0.heap.size w4 LL (.slice ya N yc)):=(aI.below OWR.out B4.out);have WS4 : Hid (w0.heap.size ≤ (w4.alloc (.cells #[.string ((⟨PN.toArray⟩ : ByteArray) ++ ⟨#[58,32]⟩ ++ ⟨X.toArray⟩ ++ ⟨#[44,32,115,116,105,108,108,32,116,111,32,115,104,111,119]⟩)] 9)).heap.size):=(by have h5:=WS.out;have h6:=B4.out.size;show _ ≤ _;simp;omega);clear b4) | (at_builtin;refine wpList_append_own_at _ rfl _ _ 36 rfl w0.heap.size 9 i0 (.string ⟨#[]⟩) 1 16 Tryz.underlying36 hi0 hz0 hs0 hb0 rfl (by decide) _ _ _ rfl (OW4.out.alloc _) ⟨w4.heap.size,0,none⟩ 1 1 [.string ((⟨PN.toArray⟩ : ByteArray) ++ ⟨#[58,32]⟩ ++ ⟨X.toArray⟩ ++ ⟨#[44,32,115,116,105,108,108,32,116,111,32,115,104,111,119]⟩)] rfl rfl NW.out (by intro u hu;simp at hu;subst hu;rfl) C3.out.1 C3.out.2 WS4.out ?_))
     intro v5 w5 hown2 hg2 _ hat2
     have R5 : Hid (aI w0.heap.size w5 (L ++ (Pf.mk [63] f lb ps ms).lines L.length) v5 ∧ Grow (.slice va L.length vc) w w5 v5):=by
      refine ⟨?_,((GW.out.below B4.out).below bnew).trans (Grow.of_grown hg2 (hat2.imp id fun e=>by rw [e];simp))⟩
      rw [LNE.out (X ++ pR) (by rw [← HX.out];exact BT.out)]
      unfold aI
      rw [List.length_append,List.map_append]
      rw [SS.out] at hown2
      exact hown2
     clear hown2 hg2 hat2
     go_wp2_with fail
     go_ret
     exact ⟨_,rfl,R5.out.1,R5.out.2⟩
    ·have q0 : (r == []) = false:=by simpa using r0
     have q1 : (r == [63]) = false:=by simpa [hole] using r1
     have BT : Hid (bS r f lb (aO L.length ps ms) = f.text ++ wBy ++ r ++ F):=by show _ = _;unfold bS;rw [if_neg r0,if_neg r1,EP.out];rfl
     have rl : r.length ≤ 16:=by
      have h5:=OK.out.1.2
      unfold dF at h5
      rw [if_neg r0,if_neg r1] at h5
      simp only [Bool.and_eq_true,decide_eq_true_eq] at h5
      exact (EA h5.1.1.1.1).2
     have nl1 : ¬ 9223372036854775807 < List.length PN + 2:=by omega
     have nl2 : ¬ 9223372036854775807 < List.length PN + 2 + List.length X:=by omega
     have nl3 : ¬ 9223372036854775807 < List.length PN + 2 + List.length X + 5:=by omega
     have nl4 : ¬ 9223372036854775807 < List.length PN + 2 + List.length X + 5 + List.length r:=by omega
     have nl5 : ¬ 9223372036854775807 < List.length PN + 2 + List.length X + 5 + List.length r + List.length F:=by omega
     clear r0 r1 EP
     go_wp2_with (go_at_call 73;refine (DN.out _).mono ?_;rintro e wd ⟨rfl,rfl⟩)
     have hS0 : wr.drew.heap[w.heap.size]? = some (.cells #[str r,.int .u8 f.op,str f.name,.slice a k c,.slice a' m d,.int .i64 lb,.slice s sn sc,.slice q qn qc] 53):=RW.out
     refine wp_region_held_drew (S:=fun w'=>w'.heap[w.heap.size]? = some (.cells #[str r,.int .u8 f.op,str f.name,.slice a k c,.slice a' m d,.int .i64 lb,.slice s sn sc,.slice q qn qc] 53)) (by kernel_rfl) hS0 (fun hHeld=>?_)
     refine tk 0 ?_
     try simp only [Act.put,s1,s2,s3,s4,s5,s6]
     refine tk 1 ?_
     try simp only [Act.put,s1,s2,s3,s4,s5,s6]
     refine tk 2 ?_
     try simp only [Act.put,s1,s2,s3,s4,s5,s6]
     refine tk 3 ?_ (hv:=by intro w0 hSw;obtain ⟨z0,z1,z2,z3,z4,z5,z6,z7⟩:=row53' hSw;go_simp;try with_reducible rfl)
     try simp only [Act.put,s1,s2,s3,s4,s5,s6]
     refine tk 7 ?_
     try simp only [Act.put,s1,s2,s3,s4,s5,s6]
     refine tk 8 ?_ (hv:=by intro w0 hSw;obtain ⟨z0,z1,z2,z3,z4,z5,z6,z7⟩:=row53' hSw;go_simp;try with_reducible rfl)
     try simp only [Act.put,s1,s2,s3,s4,s5,s6]
     refine tk 10 ?_
     try simp only [Act.put,s1,s2,s3,s4,s5,s6]
     refine rd 4 (fun K hK=>?_)
     go_simp
     go_at_call 131
     refine (TX.out _ (aB BW.out D1.out)).mono ?_
     rintro e w4 ⟨rfl,b4⟩
     have B4:=Hd (aB D1.out b4)
     have hSn:=kc b4 hS0
     have hS4:=hSn
     clear b4
     go_simp
     refine hK.out _ _ hSn (fun _=>?_)
     clear hK K
     try simp only [Act.put,s1,s2,s3,s4,s5,s6]
     have SS : Hid (Value.string ((⟨PN.toArray⟩ : ByteArray) ++ ⟨#[58,32]⟩ ++ ⟨X.toArray⟩ ++ ⟨#[44,32,98,121,32]⟩ ++ ⟨r.toArray⟩ ++ ⟨F.toArray⟩) = str (PN ++ eE ++ (X ++ wBy ++ r ++ F))):=by show _ = _;simp only [str,eE,wBy,Value.string.injEq];apply ByteArray.ext;simp
     have NW : Hid (∀ (j : Nat) (u : Value),([.string ((⟨PN.toArray⟩ : ByteArray) ++ ⟨#[58,32]⟩ ++ ⟨X.toArray⟩ ++ ⟨#[44,32,98,121,32]⟩ ++ ⟨r.toArray⟩ ++ ⟨F.toArray⟩)] : List Value)[j]? = some u → (w4.alloc (.cells #[.string ((⟨PN.toArray⟩ : ByteArray) ++ ⟨#[58,32]⟩ ++ ⟨X.toArray⟩ ++ ⟨#[44,32,98,121,32]⟩ ++ ⟨r.toArray⟩ ++ ⟨F.toArray⟩)] 9)).cell? ((⟨w4.heap.size,0,none⟩ : Addr).add j) = some u):=IA w4 _
     have OW4 : Hid (aI w0.heap.size w4 LL (.slice ya N yc)):=aI.below OWR.out B4.out
     have wr4 : w.heap.size < w4.heap.size:=(Array.getElem?_eq_some_iff.1 hS4).1
     have WS4 : Hid (w0.heap.size ≤ (w4.alloc (.cells #[.string ((⟨PN.toArray⟩ : ByteArray) ++ ⟨#[58,32]⟩ ++ ⟨X.toArray⟩ ++ ⟨#[44,32,98,121,32]⟩ ++ ⟨r.toArray⟩ ++ ⟨F.toArray⟩)] 9)).heap.size):=by have h5:=WS.out;have h6:=B4.out.size;show _ ≤ _;simp;omega
     refine tk 5 ?_
     try simp only [Act.put,s1,s2,s3,s4,s5,s6]
     refine tk 6 ?_
     try simp only [Act.put,s1,s2,s3,s4,s5,s6]
     refine tk 9 ?_
     try simp only [Act.put,s1,s2,s3,s4,s5,s6]
     refine tk 11 ?_
     try simp only [Act.put,s1,s2,s3,s4,s5,s6]
     refine rd 12 (fun K hK=>?_)
     go_simp
     refine hK.out _ _ ((bnew.block _ wr4).trans hS4) (fun _=>?_)
     clear hK K
     try simp only [Act.put,s1,s2,s3,s4,s5,s6]
     refine rd 13 (fun K hK=>?_)
     refine iH rfl _ _ 36 rfl w0.heap.size 9 i0 (.string ⟨#[]⟩) 1 16 Tryz.underlying36 hi0 hz0 hs0 hb0 rfl (by decide) _ _ _ rfl (OW4.out.alloc _) ⟨w4.heap.size,0,none⟩ 1 1 [.string ((⟨PN.toArray⟩ : ByteArray) ++ ⟨#[58,32]⟩ ++ ⟨X.toArray⟩ ++ ⟨#[44,32,98,121,32]⟩ ++ ⟨r.toArray⟩ ++ ⟨F.toArray⟩)] rfl rfl NW.out (by intro u hu;simp at hu;subst hu;rfl) C3.out.1 C3.out.2 WS4.out ?_
     intro v5 w5 hown2 hg2 hat2
     have hg5 : w5.heap[w.heap.size]? = some (.cells #[str r,.int .u8 f.op,str f.name,.slice a k c,.slice a' m d,.int .i64 lb,.slice s sn sc,.slice q qn qc] 53):=(hg2.block _ (by simp;omega) (fun e=>absurd rfl (NB.out _ e.symm))).trans ((bnew.block _ wr4).trans hS4)
     have R5 : Hid (aI w0.heap.size w5 (L ++ (Pf.mk r f lb ps ms).lines L.length) v5 ∧ Grow (.slice va L.length vc) w w5 v5):=by
      refine ⟨?_,((GW.out.below B4.out).below bnew).trans (Grow.of_grown hg2 hat2)⟩
      rw [LNE.out (X ++ wBy ++ r ++ F) (by rw [← HX.out];exact BT.out)]
      unfold aI
      rw [List.length_append,List.map_append]
      rw [SS.out] at hown2
      exact hown2
     clear hown2 hg2 hat2
     refine hK.out _ _ hg5 (fun _=>?_)
     clear hK K
     try simp only [Act.put,s1,s2,s3,s4,s5,s6]
     refine rd 14 (fun K hK=>?_)
     go_simp
     refine hK.out _ _ hg5 (fun _=>?_)
     clear hK K
     try simp only [Act.put,s1,s2,s3,s4,s5,s6]
     refine wpAnyH_done (by kernel_rfl) ?_ _
     go_wp2_with fail
     go_ret
     exact ⟨_,rfl,R5.out.1,R5.out.2⟩
mutual
theorem MY : ∀ t : Pf,LinC t
 | .mk r f l ps ms=>lin_step r f l ps ms (JO ps)
theorem JO : ∀ l : List Pf,∀ t ∈ l,LinC t
 | [],_,h=>by cases h
 | x :: xs,t,h=>by
  rcases List.mem_cons.1 h with e | e
  ·rw [e];exact MY x
  ·exact JO xs t e
end
end Go.Proofs.YtcandidgaegghaaGreatDoor
