/- syntax.visit and walk: a formula's parts, in order, as they lie. Conditions: those of each statement. -/
import Derived.Test.YtppfalbnhnpbnaaGreatDoorKyAC
import Derived.Test.YtppfalbnhnpbnaaGreatDoorRnAC
import Derived.Test.YtppfalbnhnpbnaaGreatDoorNtBC
set_option linter.unusedSimpArgs false
set_option linter.unusedVariables false
namespace Go.Proofs.YtppfalbnhnpbnaaGreatDoor
open Go Go.RowKit Ly
set_option maxRecDepth 10000
attribute [local go_sem] Oper.semAt_some
def fmV (w : World) (bb off : Nat) : Value:=.agg #[(w.cell? ⟨bb,off,none⟩).getD undef,(w.cell? ⟨bb,off + 1,none⟩).getD undef,(w.cell? ⟨bb,off + 2,none⟩).getD undef,(w.cell? ⟨bb,off + 3,none⟩).getD undef]
def qF : Value → Nat × Nat
 | .agg a=>match (a[3]? : Option Value) with
  | some (Value.slice (some ad) _ _)=>(ad.block,ad.off)
  | _=>(0,0)
 | _=>(0,0)
mutual
def fP (w : World) : Fm → Value → List Value
 | .mk _ _ _ fs,x=>x :: fmsL w fs (qF x).1 (qF x).2
def fmsL (w : World) : List Fm → Nat → Nat → List Value
 | [],_,_=>[]
 | g :: gs,bb,off=>fP w g (fmV w bb off) ++ fmsL w gs bb (off + 4)
end
theorem sX (w : World) (bb : Nat) : ∀ (fs : List Fm) (off j : Nat) {g : Fm},fs[j]? = some g → fmsL w (fs.take (j + 1)) bb off = fmsL w (fs.take j) bb off ++ fP w g (fmV w bb (off + j * 4))
 | [],_,_,_,h=>by simp at h
 | x :: fs,off,0,g,h=>by simp at h;subst h;simp [fmsL]
 | x :: fs,off,j + 1,g,h=>by
  have:=sX w bb fs (off + 4) j (g:=g) (by simpa using h)
  rw [show off + 4 + j * 4 = off + (j + 1) * 4 by omega] at this
  simp only [List.take_succ_cons,fmsL,this,List.append_assoc]
theorem vS (w : World) (bb : Nat) : ∀ (fs : List Fm) (off j : Nat),fmsL w (fs.take j) bb off <+: fmsL w fs bb off
 | [],_,_=>by simp
 | x :: fs,off,0=>by simp [fmsL]
 | x :: fs,off,j + 1=>by
  simp only [List.take_succ_cons,fmsL]
  exact (List.prefix_append_right_inj _).2 (vS w bb fs (off + 4) j)
def pZ (m r n : Nat) (J : List Value → World → Prop) (l : List Value) : Prop :=
 ∀ pre x W1,J pre W1 → pre ++ [x] <+: l → YieldAt Fence.wide n Tryz.prog r #[x] W1 fun e W'=>e = .returned (.bool true) ∧ J (pre ++ [x]) W' ∧ bN m W1 W'
def VW (w0 : World) (m r : Nat) (l : List Value) (J : List Value → World → Prop) (f : Fm) : Prop :=
 ∀ (n : Nat) (pre : List Value) (W : World) (x : Value),aV w0 f x → bI w0 W → J pre W → pre ++ fP w0 f x <+: l →
  CallsIn Fence.wide n Tryz.prog 203 #[x,.func (.yield r) #[] #[]] W fun e W'=>e = .returned (.bool true) ∧ J (pre ++ fP w0 f x) W' ∧ bN m W W'
set_option maxHeartbeats 4000000 in
theorem vw_step {w0 : World} {m r B : Nat} {l : List Value} {J : List Value → World → Prop} (hY : ∀ n,pZ m r n J l) (hM : ∀ s A X,J s A → eQ B A X → J s X) (op : Int) (nm : Bs) (ts : List Tm) (fs : List Fm) (ih : ∀ f ∈ fs,VW w0 m r l J f) : VW w0 m r l J (.mk op nm ts fs):=by
 intro n pre W x hx0 hk0 hJ hp
 obtain ⟨a,N,c,b,N2,d,rfl,hx,hy⟩ : ∃ a N c b N2 d,x = .agg #[.int .u8 op,str nm,.slice a N c,.slice b N2 d] ∧ bG w0 ts (.slice a N c) ∧ aN w0 fs (.slice b N2 d):=hx0
 have hl:=hy.len
 obtain ⟨bb,off,hbo⟩ : ∃ bb off,qF (.agg #[.int .u8 op,str nm,.slice a N c,.slice b N2 d]) = (bb,off):=⟨_,_,rfl⟩
 have hpl : fP w0 (.mk op nm ts fs) (.agg #[.int .u8 op,str nm,.slice a N c,.slice b N2 d]) = .agg #[.int .u8 op,str nm,.slice a N c,.slice b N2 d] :: fmsL w0 fs bb off:=by rw [fP,hbo]
 rw [hpl] at hp ⊢
 have N1 : N2 ≤ 9223372036854775807:=le63 (Nat.le_trans hl.2.1 hl.2.2)
 obtain ⟨p1,hp1⟩ : ∃ p1,pre ++ [Value.agg #[.int .u8 op,str nm,.slice a N c,.slice b N2 d]] = p1:=⟨_,rfl⟩
 have hp2 : p1 ++ fmsL w0 fs bb off <+: l:=by rw [← hp1,List.append_assoc];exact hp
 have he : pre ++ Value.agg #[.int .u8 op,str nm,.slice a N c,.slice b N2 d] :: fmsL w0 fs bb off = p1 ++ fmsL w0 fs bb off:=by rw [← hp1];simp
 rw [he]
 obtain ⟨W1,hW1⟩ : ∃ W1,W.alloc (.cells #[.int .u8 op,str nm,.slice a N c,.slice b N2 d] 40) = W1:=⟨_,rfl⟩
 have r0 : W1.heap[W.heap.size]? = some (.cells #[.int .u8 op,str nm,.slice a N c,.slice b N2 d] 40 (0,0)):=by rw [← hW1];exact heap_alloc_new W _
 have J1 : J pre W1:=by rw [← hW1];exact hM _ _ _ hJ (eF B W _)
 have R1 : Hid (bN m W W1):=by rw [← hW1];exact cH m W _
 obtain ⟨fn,tmps,assign,body,hyd,hR⟩:=hY (n - 1) pre _ W1 J1 (show pre ++ [Value.agg #[.int .u8 op,str nm,.slice a N c,.slice b N2 d]] <+: l from by rw [hp1];exact List.IsPrefix.trans (List.prefix_append _ _) hp2)
 rw [hp1] at hR
 have HR:=Lib.hid hR
 have L2:=Lib.hid hl.1
 have HY:=Lib.hid hy
 have HP:=Lib.hid hp2
 have HM:=Lib.hid hM
 have IH:=Lib.hid ih
 have HK0:=Lib.hid hk0
 have HBO : Hid (∀ bb' off',b = some ⟨bb',off',none⟩ → bb = bb' ∧ off = off'):=fun bb' off' e=>by
  subst e
  simp [qF] at hbo
  exact ⟨hbo.1.symm,hbo.2.symm⟩
 have R0:=Lib.hid r0
 obtain ⟨⟨y0,y1,y2,y3⟩,-⟩:=aL r0
 clear hl hx hy hp hM ih hJ hp1 hY hbo hpl hp2 he r0 J1 hR hk0
 refine callsIn_of_wp Tryz.func203 rfl trivial ?_ rfl
 simp only [Tryz.ntmps203,List.size_toArray,List.length_cons,List.length_nil,Nat.reduceAdd,Nat.reduceSub,Array.replicate_succ,Array.replicate_zero,List.push_toArray,List.append_toArray,List.nil_append,List.cons_append]
 gi_wp2
 refine ⟨fun h=>absurd h (by decide),HR.out.mono ?_⟩
 rintro e W3 ⟨rfl,hj3,hk3⟩
 have J3 : Hid (J p1 W3 ∧ bN m W W3):=⟨hj3,R1.out.trans hk3⟩
 have R3 : Hid (W3.heap[W.heap.size]? = some (.cells #[.int .u8 op,str nm,.slice a N c,.slice b N2 d] 40 (0,0))):=hk3.keeps R0.out
 clear hj3 hk3 y0 y1 y2 y3 hyd HR hW1
 obtain ⟨⟨y0,y1,y2,y3⟩,-⟩:=aL R3.out
 gi_wp2
 gi_loopw [14] (fun i wr=>∃ j : Nat,j ≤ N2 ∧ i = .int .i64 j ∧ Hid (J (p1 ++ fmsL w0 (fs.take j) bb off) wr ∧ bN m W wr)) (fun i _=>N2 - (intOf i).toNat)
 case atStart=>exact ⟨0,Nat.zero_le _,rfl,by simpa [fmsL] using J3.out.1,J3.out.2⟩
 case round =>
  obtain ⟨j,hj,rfl,hs⟩:=hrel
  clear J3
  by_cases hlt : j < N2
  ·obtain ⟨T,hT⟩:=aT (l:=fs) (j:=j) (by rw [← L2.out];exact hlt)
   obtain ⟨gb,go,rfl,hc⟩:=HY.out.get (aX hT)
   obtain ⟨x0,x1,x2,x3,x4,x5,hx⟩:=hc j _ hT
   obtain ⟨rfl,rfl⟩:=HBO.out _ _ rfl
   have hK : bI w0 wr:=HK0.out.trans (bN.cells hs.out.2)
   have c0:=hK _ _ hx.c0;have c1:=hK _ _ hx.c1;have c2:=hK _ _ hx.c2;have c3:=hK _ _ hx.c3
   have HT:=Lib.hid (List.mem_of_getElem? hT)
   have fv : fmV w0 bb (off + j * 4) = .agg #[.int .u8 T.op,str T.name,.slice x0 x1 x2,.slice x3 x4 x5]:=by simp [fmV,hx.c0,hx.c1,hx.c2,hx.c3]
   have TE:=sX w0 bb fs off j hT
   rw [fv] at TE
   have TE:=Lib.hid TE
   have IC : Hid (∀ n o,CallsIn Fence.wide n Tryz.prog 203 #[.agg #[.int .u8 T.op,str T.name,.slice x0 x1 x2,.slice x3 x4 x5],.func (.yield r) #[] #[]] (wr.alloc o) fun e W'=>e = .returned (.bool true) ∧ J (p1 ++ fmsL w0 (fs.take (j + 1)) bb off) W' ∧ bN m (wr.alloc o) W'):=fun n o=>by
    have kk : bN m W (wr.alloc o):=hs.out.2.trans (cH m wr o)
    have:=IH.out T HT.out n (p1 ++ fmsL w0 (fs.take j) bb off) (wr.alloc o) (.agg #[.int .u8 T.op,str T.name,.slice x0 x1 x2,.slice x3 x4 x5]) ⟨_,_,_,_,_,_,rfl,hx.at_,hx.at'⟩ (HK0.out.trans (bN.cells kk)) (HM.out _ _ _ hs.out.1 (eF B wr o)) (by
     rw [List.append_assoc,← TE.out]
     exact List.IsPrefix.trans ((List.prefix_append_right_inj _).2 (vS w0 bb fs off (j + 1))) HP.out)
    rw [TE.out,← List.append_assoc]
    exact this
   clear hc hx hT hK fv
   gi_wp2_with (refine ⟨trivial,fun h=>absurd h (by decide), ?_⟩;gi_at_call 203;refine (IC.out _ _).mono ?_;rintro e W4 ⟨rfl,hj4,hr4⟩;have J4:=Lib.hid hj4;have R4:=Lib.hid hr4;clear hj4 hr4)
   go_roundw
   case rel=>exact ⟨j + 1,by omega,by go_num,J4.out,hs.out.2.trans ((cH m wr _).trans R4.out)⟩
   case measure=>simp [intOf];omega
  ·have e : fs.take j = fs:=List.take_of_length_le (by rw [← L2.out];omega)
   gi_wp2
   go_ret
   exact ⟨rfl,by have:=hs.out.1;rw [e] at this;exact this,hs.out.2⟩
mutual
theorem zT {w0 : World} {m r B : Nat} {l : List Value} {J : List Value → World → Prop} (hY : ∀ n,pZ m r n J l) (hM : ∀ s A X,J s A → eQ B A X → J s X) : ∀ f : Fm,VW w0 m r l J f
 | .mk op nm ts fs=>vw_step hY hM op nm ts fs (yK hY hM fs)
theorem yK {w0 : World} {m r B : Nat} {l : List Value} {J : List Value → World → Prop} (hY : ∀ n,pZ m r n J l) (hM : ∀ s A X,J s A → eQ B A X → J s X) : ∀ fs : List Fm,∀ f ∈ fs,VW w0 m r l J f
 | [],_,h=>by cases h
 | x :: xs,f,h=>by
  rcases List.mem_cons.1 h with e | e
  ·rw [e];exact zT hY hM x
  ·exact yK hY hM xs f e
end
theorem walk_c (f a b c : Value) (w : World) : Calls Tryz.prog 161 #[.agg #[f,a,b,c]] w fun e w'=>e = .returned (.func (.func 202) #[] #[one w.heap.size]) ∧ w' = w.alloc (.cells #[f,a,b,c] 40):=by
 go_enter Tryz.func161,Tryz.ntmps161
 go_wp2
 go_ret
 exact ⟨rfl,rfl⟩
set_option maxHeartbeats 2000000 in
theorem walk_seq (n : Nat) (f : Fm) (x0 x1 x2 x3 : Value) (m cf : Nat) (w0 : World) (hf : w0.heap[cf]? = some (.cells #[x0,x1,x2,x3] 40 (0,0))) (hx : aV w0 f (.agg #[x0,x1,x2,x3])) :
  qI Fence.wide n Tryz.prog 202 #[one cf] id m (fP w0 f (.agg #[x0,x1,x2,x3])) w0:=by
 intro r J W hW hJ hY h0
 have hF:=(hW.block cf (Array.getElem?_eq_some_iff.1 hf).1).trans hf
 obtain ⟨⟨y0,y1,y2,y3⟩,-⟩:=aL hF
 have hYs : ∀ n',pZ m r n' J (fP w0 f (.agg #[x0,x1,x2,x3])):=fun n' pre x W1 h1 h2=>uF n' (hY pre x W1 h1 h2)
 have V:=zT (w0:=w0) (m:=m) (r:=r) (B:=W.heap.size) (l:=fP w0 f (.agg #[x0,x1,x2,x3])) (J:=J) hYs hJ f
 have VV : Hid (∀ n,CallsIn Fence.wide n Tryz.prog 203 #[.agg #[x0,x1,x2,x3],.func (.yield r) #[] #[]] W fun e W'=>e = .returned (.bool true) ∧ J (fP w0 f (.agg #[x0,x1,x2,x3])) W'):=fun n=>(V n [] _ _ hx (aA hW) h0 (by simp)).mono fun e W' h=>⟨h.1,by simpa using h.2.1⟩
 clear V hYs hF hx hf hJ hY
 refine callsIn_of_wp Tryz.func202 rfl trivial ?_ rfl
 simp only [Tryz.ntmps202,List.size_toArray,List.length_cons,List.length_nil,Nat.reduceAdd,Nat.reduceSub,Array.replicate_succ,Array.replicate_zero,List.push_toArray,List.append_toArray,List.nil_append,List.cons_append]
 gi_wp2_with (refine ⟨trivial,fun h=>absurd h (by decide), ?_⟩;gi_at_call 203;refine (VV.out _).mono ?_;rintro e w2 ⟨rfl,hj⟩;have HJ:=Lib.hid hj;clear hj)
 go_end0
 exact ⟨⟨_,rfl⟩,HJ.out⟩
end Go.Proofs.YtppfalbnhnpbnaaGreatDoor
namespace Go.Proofs.YtppfalbnhnpbnaaGreatDoor
open Go Go.RowKit Ly
set_option maxRecDepth 10000
attribute [local go_sem] Oper.semAt_some
def encX (s : Bs × Nat) : Value:=.agg #[str s.1,.int .i64 s.2]
def okX (s : Bs × Nat) : Prop:=s.1.length ≤ maxLen ∧ s.2 ≤ 1000000
def litX (s : Bs × Nat) : Lit:=.string (keyBytes [.string s.1,.int .i64 s.2])
theorem keyOfX (s : Bs × Nat) (h : okX s) : keyOf Tryz.prog 51 (encX s) = some (litX s):=by
 obtain ⟨D,hD⟩:=zR
 have hl:=zF (D + 1) s.1 s.2 h.1 (zC h.2)
 have hf : (encX s).formed Tryz.prog 51 = true:=by simp [encX,Value.formed,Tryz.underlying51,uK]
 have hk : Tryz.prog.keyType 51 = true:=by kernel_rfl
 unfold keyOf
 rw [Tryz.underlying51]
 simp only [hk,hf,Bool.and_self,if_true,hD]
 show Option.map _ (Tryz.prog.keyLits (D + 3) 51 [str s.1,.int .i64 s.2]) = _
 rw [hl]
 rfl
theorem encX_inj (s t : Bs × Nat) (h : encX s = encX t) : s = t:=by
 obtain ⟨a,b⟩:=s
 obtain ⟨a',b'⟩:=t
 simp only [encX,Value.agg.injEq,Array.mk.injEq,List.cons.injEq,and_true] at h
 obtain ⟨h1,h2⟩:=h
 have e1:=qE h1
 simp only [Value.int.injEq,true_and] at h2
 have e2 : b = b':=by omega
 subst e1 e2
 rfl
theorem keyX : KeyG Tryz.prog 51 encX okX litX:=⟨Maps.Keyed.of_law law51,keyOfX,encX_inj⟩
theorem zG : Tryz.prog.underlying 186 = some (.map 51 4):=by kernel_rfl
def gD (w : World) (M n : Nat) (l : List (Bs × Nat)) : Prop:=MapG Tryz.prog 51 okX litX (.bool false) w M n (fun s=>decide (s ∈ l)) (fun s=>.bool (decide (s ∈ l)))
theorem gD.heap {w w' : World} {M n : Nat} {l : List (Bs × Nat)} (h : gD w M n l) (e : w'.heap[M]? = w.heap[M]?) : gD w' M n l:=MapG.heap h e
theorem gD.lt {w : World} {M n : Nat} {l : List (Bs × Nat)} (h : gD w M n l) : M < w.heap.size:=MapG.lt h
theorem gD.put {w : World} {M n : Nat} {l : List (Bs × Nat)} {x : Bs × Nat} (h : MapG Tryz.prog 51 okX litX (.bool false) w M n (fun u=>if u = x then true else decide (u ∈ l)) (fun u=>if u = x then .bool true else .bool (decide (u ∈ l)))) : gD w M n (l ++ [x]):=by
 refine h.cong (fun s hs=>?_) (fun s hs=>?_)
 ·by_cases e : s = x <;> simp [e]
 ·by_cases e : s = x <;> simp [e]
theorem gD.made (w : World) : gD (w.alloc (.map #[] 0)) w.heap.size 0 []:=(MapG.made (P:=Tryz.prog) (k:=51) (ok:=okX) (lit:=litX) (z:=.bool false) w).cong (fun _ _=>by simp) (fun _ _=>by simp)
def iE : Value → List (Bs × Nat)
 | .agg a=>match (a[0]? : Option Value),(a[1]? : Option Value),(a[2]? : Option Value) with
  | some (Value.int _ op),some (Value.string s),some (Value.slice _ n _)=>if op = 1 then [(s.data.toList,n)] else []
  | _,_,_=>[]
 | _=>[]
theorem rX (op : Int) (nm : Bs) (a : Option Addr) (n c : Nat) (v : Value) : iE (.agg #[.int .u8 op,str nm,.slice a n c,v]) = if op = 1 then [(nm,n)] else []:=by
 simp [iE]
def yX (x : Value) : Prop:=∃ (op : Int) (nm : Bs) (a : Option Addr) (n c : Nat) (b : Option Addr) (m d : Nat),x = .agg #[.int .u8 op,str nm,.slice a n c,.slice b m d] ∧ (op = 1 → nm.length ≤ maxLen ∧ n ≤ 1000000) ∧ n ≤ maxLen
mutual
theorem nW {w : World} : ∀ (f : Fm) (x : Value),aV w f x → (fP w f x).flatMap iE = f.preds
 | .mk op nm ts fs,x,h=>by
  obtain ⟨a,n,c,b,m,d,rfl,hx,hy⟩ : ∃ a N c b N2 d,x = .agg #[.int .u8 op,str nm,.slice a N c,.slice b N2 d] ∧ bG w ts (.slice a N c) ∧ aN w fs (.slice b N2 d):=h
  rw [fP,List.flatMap_cons,rX,Fm.preds,hx.len.1]
  congr 1
  cases fs with
  | nil=>simp [fmsL,eX]
  | cons g gs =>
   obtain ⟨bb,off,rfl,hc⟩:=hy.get (by simp)
   exact qW (g :: gs) bb off hc
theorem qW {w : World} : ∀ (fs : List Fm) (bb off : Nat),(∀ (i : Nat) (f : Fm),fs[i]? = some f → ∃ x k e y m d,jY w bb (off + i * 4) f x k e y m d) → (fmsL w fs bb off).flatMap iE = eX fs
 | [],_,_,_=>rfl
 | g :: gs,bb,off,h=>by
  obtain ⟨x,k,e,y,m,d,hc⟩:=h 0 g rfl
  rw [fmsL,List.flatMap_append,eX]
  have fv : fmV w bb off = .agg #[.int .u8 g.op,str g.name,.slice x k e,.slice y m d]:=by
   have:=hc.c0;have:=hc.c1;have:=hc.c2;have:=hc.c3
   simp_all [fmV]
  rw [nW g _ (by rw [fv];exact ⟨_,_,_,_,_,_,rfl,hc.at_,hc.at'⟩),qW gs bb (off + 4) (fun i f hf=>by
   have:=h (i + 1) f (by simpa using hf)
   rwa [show off + 4 + i * 4 = off + (i + 1) * 4 by omega])]
end
mutual
theorem pP {w : World} : ∀ (f : Fm) (x : Value),aV w f x → f.ok = true → ∀ y ∈ fP w f x,yX y
 | .mk op nm ts fs,x,h,ho,y,hy'=>by
  obtain ⟨a,n,c,b,m,d,rfl,hx,hy⟩ : ∃ a N c b N2 d,x = .agg #[.int .u8 op,str nm,.slice a N c,.slice b N2 d] ∧ bG w ts (.slice a N c) ∧ aN w fs (.slice b N2 d):=h
  rw [fP] at hy'
  unfold Fm.ok at ho
  simp only [Bool.and_eq_true] at ho
  rcases List.mem_cons.1 hy' with rfl | hy'
  ·refine ⟨op,nm,a,n,c,b,m,d,rfl,fun e=>?_,Nat.le_trans hx.len.2.1 hx.len.2.2⟩
   have:=ho.1.1.2
   rw [if_pos e,Bool.and_eq_true,decide_eq_true_eq] at this
   have h1:=dE this.1
   have h2:=hx.len.1
   exact ⟨by unfold maxLen;omega,by omega⟩
  ·cases fs with
   | nil=>simp [fmsL] at hy'
   | cons g gs =>
    obtain ⟨bb,off,rfl,hc⟩:=hy.get (by simp)
    exact sW (g :: gs) bb off hc ho.2 y hy'
theorem sW {w : World} : ∀ (fs : List Fm) (bb off : Nat),(∀ (i : Nat) (f : Fm),fs[i]? = some f → ∃ x k e y m d,jY w bb (off + i * 4) f x k e y m d) → bW fs = true → ∀ y ∈ fmsL w fs bb off,yX y
 | [],_,_,_,_,y,hy=>by simp [fmsL] at hy
 | g :: gs,bb,off,h,ho,y,hy'=>by
  obtain ⟨x,k,e,z,m,d,hc⟩:=h 0 g rfl
  rw [bW,Bool.and_eq_true] at ho
  rw [fmsL] at hy'
  have fv : fmV w bb off = .agg #[.int .u8 g.op,str g.name,.slice x k e,.slice z m d]:=by
   have:=hc.c0;have:=hc.c1;have:=hc.c2;have:=hc.c3
   simp_all [fmV]
  rcases List.mem_append.1 hy' with hy' | hy'
  ·exact pP g _ (by rw [fv];exact ⟨_,_,_,_,_,_,rfl,hc.at_,hc.at'⟩) ho.1 y hy'
  ·exact sW gs bb (off + 4) (fun i f hf=>by
    have:=h (i + 1) f (by simpa using hf)
    rwa [show off + 4 + i * 4 = off + (i + 1) * 4 by omega]) ho.2 y hy'
end
mutual
theorem wF : ∀ f : Fm,f.ok = true → ∀ s ∈ f.preds,okX s
 | .mk op nm ts fs,h,s,hs=>by
  unfold Fm.ok at h
  simp only [Bool.and_eq_true] at h
  rw [Fm.preds] at hs
  rcases List.mem_append.1 hs with hs | hs
  ·split at hs
   ·next e =>
    simp at hs
    subst hs
    have:=h.1.1.2
    rw [if_pos e,Bool.and_eq_true,decide_eq_true_eq] at this
    have h1:=dE this.1
    have h2:=this.2
    exact ⟨by show nm.length ≤ maxLen;unfold maxLen;omega,by show ts.length ≤ _;omega⟩
   ·simp at hs
  ·exact pK fs h.2 s hs
theorem pK : ∀ fs : List Fm,bW fs = true → ∀ s ∈ eX fs,okX s
 | [],_,s,hs=>by simp [eX] at hs
 | f :: fs,h,s,hs=>by
  rw [bW,Bool.and_eq_true] at h
  rw [eX] at hs
  rcases List.mem_append.1 hs with hs | hs
  ·exact wF f h.1 s hs
  ·exact pK fs h.2 s hs
end
mutual
theorem tQ : ∀ f : Fm,f.preds.length ≤ f.nodes
 | .mk op nm ts fs=>by
  have:=nP fs
  rw [Fm.preds,Fm.nodes,List.length_append]
  split <;> simp <;> omega
theorem nP : ∀ fs : List Fm,(eX fs).length ≤ aD fs
 | []=>by simp [eX]
 | f :: fs=>by
  have:=tQ f
  have:=nP fs
  simp [eX,aD];omega
end
end Go.Proofs.YtppfalbnhnpbnaaGreatDoor
namespace Go.Proofs.YtppfalbnhnpbnaaGreatDoor
open Go Go.RowKit Ly
set_option maxRecDepth 10000
attribute [local go_sem] Oper.semAt_some
def pR (l : List (Bs × Nat)) : List D:=l.flatMap (fun s=>[.val (str s.1),.val (.int .i64 s.2)])
def fI (w : World) (l : List (Bs × Nat)) (v : Value) : Prop:=At w (.sl 2 l.length (pR l)) v
def pY : Prop:=∀ (W : World) (M n : Nat) (l : List (Bs × Nat)),gD W M n l → n ≤ 100000 → (∀ s ∈ l,okX s) →
 Calls Tryz.prog 162 #[.map (some M)] W fun e w'=>∃ L v,e = .returned v ∧ (∀ s,s ∈ L ↔ s ∈ l) ∧ fI w' L v ∧ Below W.heap.size W w' ∧ L.length ≤ 100000
structure zZ (w : World) (m : Nat) (pre : List Value) (W : World) : Prop where
 set : gD W m (pre.flatMap iE).length (pre.flatMap iE)
 cell : W.heap[m + 1]? = some (.cells #[.map (some m)] 186 (0,0))
 below : Below w.heap.size w W
set_option maxHeartbeats 4000000 in
theorem Predicates_c (hS : pY) (f : Fm) (x : Value) (w : World) (hx0 : aV w f x) (hok : f.ok = true) (hn : f.nodes ≤ 100000) :
  Calls Tryz.prog 108 #[x] w fun e w'=>∃ L v,e = .returned v ∧ (∀ s,s ∈ L ↔ s ∈ f.preds) ∧ fI w' L v ∧ Below w.heap.size w w' ∧ L.length ≤ 100000:=by
 obtain ⟨a,n,c,b,m',d,rfl,hx,hy⟩:=hx0
 obtain ⟨W0,hW0⟩ : ∃ W0,((w.alloc (.cells #[.int .u8 f.op,str f.name,.slice a n c,.slice b m' d] 40)).alloc (.map #[] 0)).alloc (.cells #[.map (some (w.heap.size + 1))] 186) = W0:=⟨_,rfl⟩
 obtain ⟨W1,hW1⟩ : ∃ W1,W0.alloc (.cells #[.int .u8 f.op,str f.name,.slice a n c,.slice b m' d] 40) = W1:=⟨_,rfl⟩
 have b0 : Below w.heap.size w W0:=by rw [← hW0];exact (((Below.refl _ _).alloc (Nat.le_refl _) _).alloc (by simp) _).alloc (by simp;omega) _
 have s0 : W0.heap.size = w.heap.size + 3:=by rw [← hW0];simp
 have b1 : Below w.heap.size w W1:=by rw [← hW1];exact b0.alloc (by omega) _
 have s1 : W1.heap.size = w.heap.size + 4:=by rw [← hW1];simp [s0]
 have r0 : W0.heap[w.heap.size]? = some (.cells #[.int .u8 f.op,str f.name,.slice a n c,.slice b m' d] 40 (0,0)):=by rw [← hW0];exact aI _ (aI _ (heap_alloc_new w _))
 have g1 : W1.heap[W0.heap.size]? = some (.cells #[.int .u8 f.op,str f.name,.slice a n c,.slice b m' d] 40 (0,0)):=by rw [← hW1];exact heap_alloc_new W0 _
 have I0 : zZ w (w.heap.size + 1) [] W1:=by
  refine ⟨?_, ?_,b1⟩
  ·have e : W1.heap[w.heap.size + 1]? = ((w.alloc (.cells #[.int .u8 f.op,str f.name,.slice a n c,.slice b m' d] 40)).alloc (.map #[] 0)).heap[w.heap.size + 1]?:=by
    rw [← hW1,Below.heap_alloc _ _ _ (by omega),← hW0,Below.heap_alloc _ _ _ (by simp)]
   have:=gD.made (w.alloc (.cells #[.int .u8 f.op,str f.name,.slice a n c,.slice b m' d] 40))
   rw [World.size_alloc] at this
   exact this.heap e
  ·rw [← hW1]
   refine aI _ ?_
   rw [← hW0]
   have:=heap_alloc_new ((w.alloc (.cells #[.int .u8 f.op,str f.name,.slice a n c,.slice b m' d] 40)).alloc (.map #[] 0)) (.cells #[.map (some (w.heap.size + 1))] 186)
   rw [World.size_alloc,World.size_alloc] at this
   exact this
 have K1:=aA b1
 have fv1 : aV W1 f (.agg #[.int .u8 f.op,str f.name,.slice a n c,.slice b m' d]):=⟨_,_,_,_,_,_,rfl,hx.keep K1,hy.keep K1⟩
 obtain ⟨l,hl⟩ : ∃ l,fP W1 f (.agg #[.int .u8 f.op,str f.name,.slice a n c,.slice b m' d]) = l:=⟨_,rfl⟩
 have FS : ∀ n',qI Fence.wide n' Tryz.prog 202 #[one W0.heap.size] id (w.heap.size + 1) l W1:=fun n'=>by
  rw [← hl];exact walk_seq n' f _ _ _ _ (w.heap.size + 1) W0.heap.size W1 g1 fv1
 have HF : Hid (∀ y ∈ l,yX y):=by rw [← hl];exact pP f _ fv1 hok
 have HPR : Hid (l.flatMap iE = f.preds):=by rw [← hl];exact nW f _ fv1
 have HLN : Hid (f.preds.length ≤ 100000):=by have:=tQ f;show _ ≤ _;omega
 have HOK : Hid (∀ s ∈ f.preds,okX s):=fun s hs=>wF f hok s hs
 have HS:=Lib.hid hS
 have S1:=Lib.hid s1
 have S0:=Lib.hid s0
 obtain ⟨⟨y0,y1,y2,y3⟩,-⟩:=aL r0
 clear hx hy hok hn hS K1 fv1 hl b0 b1 r0 g1 s0 s1
 refine (callsIn_wide (n:=6)).1 ?_
 refine callsIn_of_wp_marks Tryz.func108 rfl trivial ?_ rfl
 have hmm:=@run_makeMap Tryz.prog
 simp only [Tryz.ntmps108,List.size_toArray,List.length_cons,List.length_nil,Nat.reduceAdd,Nat.reduceSub,Array.replicate_succ,Array.replicate_zero,List.push_toArray,List.append_toArray,List.nil_append,List.cons_append]
 gi_wp2_with (refine ⟨trivial, ?_⟩;gi_at_call 161;refine callsIn_wide.2 ((walk_c _ _ _ _ _).mono ?_);rintro e w2 ⟨rfl,rfl⟩)
 clear hW1 hW0 hmm y0 y1 y2 y3
 refine pW (w0:=W1) (a:=⟨#[.agg #[.int .u8 f.op,str f.name,.slice a n c,.slice b m' d],one w.heap.size,.slice none 0 0,one (w.heap.size + 1 + 1),undef,.map (some (w.heap.size + 1)),.agg #[.int .u8 f.op,str f.name,.slice a n c,.slice b m' d],.func (.func 202) #[] #[one W0.heap.size],undef,undef,undef,undef,undef,undef,undef,undef,undef,undef,undef,undef,undef],[]⟩) rfl (by decide) (gf:=202) (lb:=#[one W0.heap.size]) rfl trivial (enters_of Tryz.func202 (by kernel_rfl) rfl) (by have:=S1.out;omega) (FS 5) (Below.refl _ _) rfl
  (zZ w (w.heap.size + 1)) (fun s A X h hA hb=>⟨h.set.heap (hb.block _ (by have:=S1.out;omega)),(hb.block _ (by have:=S1.out;omega)).trans h.cell,h.below.trans (hb.mono (by have:=S1.out;omega))⟩) I0
  (fun x ac W=>∃ (op : Int) (nm : Bs) (xa : Option Addr) (xn xc : Nat) (xb : Option Addr) (xm xd g : Nat),x = .agg #[.int .u8 op,str nm,.slice xa xn xc,.slice xb xm xd] ∧ (op = 1 → nm.length ≤ maxLen ∧ xn ≤ 1000000) ∧ xn ≤ maxLen ∧ W.heap[g]? = some (.cells #[.int .u8 op,str nm,.slice xa xn xc,.slice xb xm xd] 40 (0,0)) ∧
   ac = ⟨#[.agg #[.int .u8 f.op,str f.name,.slice a n c,.slice b m' d],one w.heap.size,.slice none 0 0,one (w.heap.size + 1 + 1),one g,.map (some (w.heap.size + 1)),.agg #[.int .u8 f.op,str f.name,.slice a n c,.slice b m' d],.func (.func 202) #[] #[one W0.heap.size],.agg #[.int .u8 op,str nm,.slice xa xn xc,.slice xb xm xd],undef,undef,undef,undef,undef,undef,undef,undef,undef,undef,undef,undef],[]⟩)
  (fun x ac A X h hk=>by
   obtain ⟨op,nm,xa,xn,xc,xb,xm,xd,g,h1,h2,h2',h3,h4⟩:=h
   exact ⟨op,nm,xa,xn,xc,xb,xm,xd,g,h1,h2,h2',hk _ _ h3 rfl,h4⟩) ?assign ?body ?done
 case assign =>
  intro r pre x W K hsz hi hp hK
  obtain ⟨op,nm,xa,xn,xc,xb,xm,xd,rfl,h2,h3⟩:=HF.out x (hp.subset (by simp))
  gi_wp2
  refine hK _ _ (fW.of_below ((Below.refl _ _).alloc (Nat.le_refl _) _)) ?_ ⟨op,nm,xa,xn,xc,xb,xm,xd,W.heap.size,rfl,h2,h3,heap_alloc_new W _,rfl⟩
  have bb : Below W.heap.size W (W.alloc (.cells #[.int .u8 op,str nm,.slice xa xn xc,.slice xb xm xd] 40)):=(Below.refl _ _).alloc (Nat.le_refl _) _
  exact ⟨hi.set.heap (bb.block _ hi.set.lt),(bb.block _ (Array.getElem?_eq_some_iff.1 hi.cell).1).trans hi.cell,hi.below.trans (bb.mono hi.below.size)⟩
 case body =>
  rintro r pre x W ac hsz hi ⟨op,nm,xa,xn,xc,xb,xm,xd,g,rfl,h2,h2',hg,rfl⟩ hp
  obtain ⟨y0,-⟩:=row1 hi.cell
  obtain ⟨⟨z0,z1,z2,z3⟩,-⟩:=aL hg
  have HI:=Lib.hid hi
  have HP:=Lib.hid hp
  have H2:=Lib.hid h2
  have N1 : xn ≤ 9223372036854775807:=le63 h2'
  have TP:=rX op nm xa xn xc (.slice xb xm xd)
  clear hi hg hp h2 h2'
  by_cases hop : op = 1
  ·subst hop
   rw [if_pos rfl] at TP
   have TPH:=Lib.hid TP
   clear TP
   have hlen : Hid ((pre.flatMap iE).length < maxLen):=by
    have h1 : (pre.flatMap iE).length ≤ f.preds.length:=by
     rw [← HPR.out]
     obtain ⟨t,ht⟩:=HP.out
     rw [← ht]
     simp only [List.flatMap_append,List.length_append]
     omega
    have:=HLN.out
    show _ < _;unfold maxLen;omega
   gi_wp2_with (gi_at_mapUpdate;refine fG rfl _ _ _ 186 rfl 4 keyX zG rfl HI.out.set hlen.out (nm,xn) (H2.out rfl) rfl ?_;intro w1 hm1 hg1)
   have ht : fW (w.heap.size + 1) W w1:=fW.of_grownBy hg1 (MapG.isMap HI.out.set)
   refine ⟨ht, ?_, ?_, ?_⟩
   ·rw [List.flatMap_append,List.flatMap_cons,List.flatMap_nil,List.append_nil,TPH.out,List.length_append]
    exact gD.put hm1
   ·exact ht.block _ _ HI.out.cell (.inr rfl)
   ·exact HI.out.below.trans ⟨ht.os,ht.tape,ht.output,ht.size,fun i hi=>hg1.block i (by have:=HI.out.below.size;omega) (fun e=>by cases e;omega)⟩
  ·rw [if_neg hop] at TP
   have TPH:=Lib.hid TP
   have hop2 : (op == 1) = false:=by simpa using hop
   clear TP
   gi_wp2
   refine ⟨fW.refl _ _, ?_,HI.out.cell,HI.out.below⟩
   rw [List.flatMap_append,List.flatMap_cons,List.flatMap_nil,List.append_nil,TPH.out,List.append_nil]
   exact HI.out.set
 case done =>
  intro D W hD hi hK
  obtain ⟨y0,-⟩:=row1 hi.cell
  have hi2:=hi.set
  rw [HPR.out] at hi2
  have SC : Hid (Calls Tryz.prog 162 #[.map (some (w.heap.size + 1))] W fun e w'=>∃ L v,e = .returned v ∧ (∀ s,s ∈ L ↔ s ∈ f.preds) ∧ fI w' L v ∧ Below W.heap.size W w' ∧ L.length ≤ 100000):=HS.out W _ _ f.preds hi2 HLN.out (HOK.out)
  have HK:=Lib.hid hK
  have HI:=Lib.hid hi.below
  clear hi hi2 hK
  gi_wp2_with (refine ⟨trivial, ?_⟩;gi_at_call 162;refine callsIn_wide.2 (SC.out.mono ?_);rintro e w5 ⟨L,v,rfl,hL,hv,b5,hll⟩;have H5:=Lib.hid (And.intro hL (And.intro hv b5));have HLL:=Lib.hid hll;clear hL hv b5 hll SC)
  have hK5 : w5.heap[D]? = some (.deferred (some [])):=(H5.out.2.2.block D (Array.getElem?_eq_some_iff.1 HK.out).1).trans HK.out
  refine ⟨by simp,.inl ⟨_,_,rfl,run_takeDeferred hK5, ?_⟩⟩
  refine ⟨_,results_tmp rfl _ _ _,L,v,rfl,H5.out.1,At.keep (bN.cells (m:=0) (bN.put _ hK5 rfl)) _ _ H5.out.2.1, ?_,HLL.out⟩
  exact (HI.out.trans (H5.out.2.2.mono HI.out.size)).trans (iG _ (by have:=S1.out;omega))
end Go.Proofs.YtppfalbnhnpbnaaGreatDoor
