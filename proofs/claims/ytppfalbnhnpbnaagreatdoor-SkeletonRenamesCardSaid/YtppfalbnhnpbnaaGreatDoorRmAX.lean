/- skeleton.Weight's closure: a formula's operators are counted. Conditions: those of each statement. -/
import Derived.Test.YtppfalbnhnpbnaaGreatDoorAwyX
import Derived.Test.YtppfalbnhnpbnaaGreatDoorOfAX
import Derived.Test.YtppfalbnhnpbnaaGreatDoorRegUX
import Derived.Test.YtppfalbnhnpbnaaGreatDoorNtDX
import Derived.Test.YtppfalbnhnpbnaaGreatDoorEaEX
import Derived.Test.YtppfalbnhnpbnaaGreatDoorClAX
import Derived.Test.YtppfalbnhnpbnaaGreatDoorFlwX
import Derived.Test.YtppfalbnhnpbnaaGreatDoorAwAX
set_option linter.unusedSimpArgs false
set_option linter.unusedVariables false
namespace Ly
mutual
def Fm.wt : Fm → Nat
 | .mk op _ _ fs=>(if op = 1 ∨ op = 2 then 0 else 1) + cF fs
def cF : List Fm → Nat
 | []=>0
 | f :: fs=>f.wt + cF fs
end
mutual
theorem Fm.wt_le : ∀ f : Fm,f.wt ≤ f.nodes
 | .mk op n ts fs=>by
  have:=rP fs
  rw [Fm.wt,Fm.nodes]
  split <;> omega
theorem rP : ∀ fs : List Fm,cF fs ≤ aG fs
 | []=>by simp [cF]
 | f :: fs=>by
  have:=f.wt_le
  have:=rP fs
  simp [cF,aG];omega
end
theorem mE (a b : List Fm) : cF (a ++ b) = cF a + cF b:=by
 induction a with
 | nil=>simp [cF]
 | cons x a ih=>simp [cF,ih];omega
theorem rQ (fs : List Fm) {j : Nat} {T : Fm} (h : fs[j]? = some T) : cF (fs.take (j + 1)) = cF (fs.take j) + T.wt:=by
 rw [List.take_add_one,h,mE]
 simp [cF]
theorem tP (fs : List Fm) (j : Nat) : cF (fs.take j) ≤ cF fs:=by
 have:=mE (fs.take j) (fs.drop j)
 rw [List.take_append_drop] at this
 omega
end Ly
namespace Go.Proofs.YtppfalbnhnpbnaaGreatDoor
open Go Go.RowKit Ly
set_option maxRecDepth 10000
theorem rC {W W' : World} {g : Nat} {x : Value} {t : TypeId} (hg : W.heap[g]? = some (.cells #[x] t (0,0))) (hb : But1 g W W') :
  (∀ (a : Addr) v,a.block ≠ g → W.cell? a = some v → W'.cell? a = some v) ∧ ∀ off,2 ≤ off → W.cell? ⟨g,off,none⟩ = none:=by
 refine ⟨fun a v hne hc=>?_,fun off ho=>?_⟩
 ·have lt : a.block < W.heap.size:=by
   cases ho : W.heap[a.block]? with
   | none=>simp [World.cell?,ho] at hc
   | some o=>exact (Array.getElem?_eq_some_iff.1 ho).1
  rw [World.cell?_of_block (a:=a) (hb.block _ lt hne)];exact hc
 ·simp [World.cell?,hg];omega
theorem rS {W W' : World} {g : Nat} {x : Value} {t : TypeId} (hg : W.heap[g]? = some (.cells #[x] t (0,0))) (hb : But1 g W W') {fs : List Fm} {v : Value} (h : aL W fs v) : aL W' fs v :=
 At.away (rC hg hb).1 (rC hg hb).2 _ _ ⟨by rw [mB];omega,jS fs⟩ h
structure CtS (cn cf k : Nat) (W : World) : Prop where
 n : W.heap[cn]? = some (.cells #[.int .i64 k] 3 (0,0))
 f : W.heap[cf]? = some (.cells #[.func (.func 55) #[] #[one cn,one cf]] 98 (0,0))
 ne : cf ≠ cn
theorem CtS.below {cn cf k : Nat} {W X : World} (h : CtS cn cf k W) (b : Below W.heap.size W X) : CtS cn cf k X :=
 ⟨(b.block _ (Array.getElem?_eq_some_iff.1 h.n).1).trans h.n,(b.block _ (Array.getElem?_eq_some_iff.1 h.f).1).trans h.f,h.ne⟩
theorem CtS.set {cn cf k : Nat} {W : World} (h : CtS cn cf k W) (q : Nat) : CtS cn cf q (W.setCell ⟨cn,0,none⟩ (.int .i64 q)) :=
 ⟨by rw [aC h.n];rfl,(Below.heap_setCell _ _ _ _ h.ne).trans h.f,h.ne⟩
def WG (cn cf : Nat) (f : Fm) : Prop:=∀ (k : Nat) (W : World) (x : Value),bH W f x → CtS cn cf k W → k + f.wt ≤ 1000000 →
 Calls Tryz.prog 55 #[x,one cn,one cf] W fun e w'=>e = .returned (.tuple #[]) ∧ But1 cn W w' ∧ CtS cn cf (k + f.wt) w'
set_option maxHeartbeats 4000000 in
theorem wg_step (cn cf : Nat) (op : Int) (nm : Bs) (ts : List Tm) (fs : List Fm) (ih : ∀ f ∈ fs,WG cn cf f) : WG cn cf (.mk op nm ts fs):=by
 intro k W x hx0 hS hk
 obtain ⟨a,n,c,b,m,d,rfl,hx,hy⟩ : ∃ a n c b m d,x = .agg #[.int .u8 op,str nm,.slice a n c,.slice b m d] ∧ bE W ts (.slice a n c) ∧ aL W fs (.slice b m d):=hx0
 have hl:=hy.len
 have N1 : m ≤ 9223372036854775807:=le63 (Nat.le_trans hl.2.1 hl.2.2)
 have L2:=Lib.hid hl.1
 obtain ⟨W1,hW1⟩ : ∃ W1,W.alloc (.cells #[.int .u8 op,str nm,.slice a n c,.slice b m d] 40) = W1:=⟨_,rfl⟩
 have b1 : Below W.heap.size W W1:=by rw [← hW1];exact (Below.refl _ _).alloc (Nat.le_refl _) _
 have r0 : W1.heap[W.heap.size]? = some (.cells #[.int .u8 op,str nm,.slice a n c,.slice b m d] 40 (0,0)):=by rw [← hW1];exact heap_alloc_new W _
 have S1:=Lib.hid (hS.below b1)
 have lt : cn < W.heap.size:=(Array.getElem?_eq_some_iff.1 hS.n).1
 obtain ⟨q,hq⟩ : ∃ q,k + (if op = 1 ∨ op = 2 then 0 else 1) = q:=⟨_,rfl⟩
 have hw : (Fm.mk op nm ts fs).wt = (if op = 1 ∨ op = 2 then 0 else 1) + cF fs:=by rw [Fm.wt]
 have HW : Hid (k + (Fm.mk op nm ts fs).wt = q + cF fs):=by show _ = _;rw [hw];omega
 have HQ : Hid (q + cF fs ≤ 1000000):=by have:=HW.out;show _ ≤ _;omega
 have R0:=Lib.hid r0
 have HY:=Lib.hid hy
 have HS:=Lib.hid hS
 have IH:=Lib.hid ih
 have B1:=Lib.hid b1
 have LT:=Lib.hid lt
 obtain ⟨⟨y0,y1,y2,y3⟩,-⟩:=aJ r0
 obtain ⟨v0,v1⟩:=row1 S1.out.n
 -- what the loop is entered with
 have ROUND : Hid (∀ wr (j : Nat) (T : Fm) (x0 : Option Addr) (x1 x2 : Nat) (x3 : Option Addr) (x4 x5 : Nat),fs[j]? = some T → But1 cn W wr → CtS cn cf (q + cF (fs.take j)) wr → bE wr T.args (.slice x0 x1 x2) → aL wr T.sub (.slice x3 x4 x5) → ∀ o,
   Calls Tryz.prog 55 #[.agg #[.int .u8 T.op,str T.name,.slice x0 x1 x2,.slice x3 x4 x5],one cn,one cf] (wr.alloc o) fun e w'=>e = .returned (.tuple #[]) ∧ But1 cn W w' ∧ CtS cn cf (q + cF (fs.take (j + 1))) w'):=fun wr j T x0 x1 x2 x3 x4 x5 hT hb hs ht hf o=>by
  have ba : Below wr.heap.size wr (wr.alloc o):=(Below.refl _ _).alloc (Nat.le_refl _) _
  have hb2 : But1 cn W (wr.alloc o):=hb.trans (But1.of_below ba)
  have te:=rQ fs hT
  refine (IH.out T (List.mem_of_getElem? hT) (q + cF (fs.take j)) (wr.alloc o) _ ⟨_,_,_,_,_,_,rfl,ht.keep (aA ba),hf.keep (aA ba)⟩ (hs.below ba) (by have:=HQ.out;have:=tP fs (j + 1);omega)).mono ?_
  rintro e w' ⟨rfl,h1,h2⟩
  exact ⟨rfl,hb2.trans h1,by rw [te,← Nat.add_assoc];exact h2⟩
 have FIN : Hid (∀ w',But1 cn W w' → CtS cn cf (q + cF fs) w' → But1 cn W w' ∧ CtS cn cf (k + (Fm.mk op nm ts fs).wt) w'):=fun w' h1 h2=>⟨h1,by rw [HW.out];exact h2⟩
 clear hx hy hl ih hS hk b1 r0 lt hw HW
 by_cases hc : op = 1 ∨ op = 2
 ·rw [if_pos hc,Nat.add_zero] at hq
  subst hq
  have A0 : Hid (But1 cn W W1 ∧ CtS cn cf (k + cF (fs.take 0)) W1):=⟨But1.of_below B1.out,by simpa [cF] using S1.out⟩
  go_enter Tryz.func55,Tryz.ntmps55
  rcases hc with rfl | rfl
  all_goals
   go_wp2
   clear y0 y1 y2 y3 v0 v1 hW1
   go_loopw [19] (fun i wr=>∃ j : Nat,j ≤ m ∧ i = .int .i64 j ∧ Hid (But1 cn W wr ∧ CtS cn cf (k + cF (fs.take j)) wr)) (fun i _=>m - (intOf i).toNat)
   case atStart=>exact ⟨0,Nat.zero_le _,rfl,A0.out⟩
   case round =>
    obtain ⟨j,hj,rfl,hs⟩:=hrel
    clear A0
    have fa:=rS HS.out.n hs.out.1 HY.out
    by_cases hlt : j < m
    ·obtain ⟨T,hT⟩:=aX (l:=fs) (j:=j) (by rw [← L2.out];exact hlt)
     obtain ⟨bb,off,rfl,hc⟩:=fa.get (aZ hT)
     obtain ⟨x0,x1,x2,x3,x4,x5,hx⟩:=hc j _ hT
     have c0:=hx.c0;have c1:=hx.c1;have c2:=hx.c2;have c3:=hx.c3
     have RC:=Lib.hid (ROUND.out wr j T x0 x1 x2 x3 x4 x5 hT hs.out.1 hs.out.2 hx.at_ hx.at')
     have v2 : ∀ o,(wr.alloc o).cell? ⟨cf,0,none⟩ = some (.func (.func 55) #[] #[one cn,one cf]):=fun o=>(row1 (aI o hs.out.2.f)).1
     clear hc hx hT fa
     go_wp2_with (go_at_call 55;refine (RC.out _).mono ?_;rintro e w3 ⟨rfl,h3,s3⟩;have H3:=Lib.hid (And.intro h3 s3);clear h3 s3 RC)
     go_roundw
     case rel=>exact ⟨j + 1,by omega,by go_num,H3.out⟩
     case measure=>simp [intOf];omega
    ·have e : fs.take j = fs:=List.take_of_length_le (by rw [← L2.out];omega)
     have hs2:=hs.out
     rw [e] at hs2
     have FF:=Lib.hid (FIN.out _ hs2.1 hs2.2)
     clear hs2 e fa
     go_wp2
     go_end0
     exact ⟨rfl,FF.out⟩
 ·have hq2 : k + 1 = q:=by rw [← hq,if_neg hc]
  have WZ : RowKit.wrap64 ((k : Int) + 1) = q:=by
   rw [← hq2]
   exact ((IntWalk.i64_left _).symm.trans (IntWalk.i64_in _ (by have:=HQ.out;omega))).trans (by simp)
  have n1 : (op == 1) = false:=by simpa using fun e=>hc (.inl e)
  have n2 : (op == 2) = false:=by simpa using fun e=>hc (.inr e)
  have m1 : ¬ op = 1:=fun e=>hc (.inl e)
  have m2 : ¬ op = 2:=fun e=>hc (.inr e)
  have p1 : (op != 1) = true:=by simpa using m1
  have p2 : (op != 2) = true:=by simpa using m2
  have A0 : Hid (But1 cn W (W1.setCell ⟨cn,0,none⟩ (.int .i64 q)) ∧ CtS cn cf (q + cF (fs.take 0)) (W1.setCell ⟨cn,0,none⟩ (.int .i64 q))):=⟨(But1.of_below B1.out).set _ _,by simpa [cF] using S1.out.set q⟩
  have y3' : (W1.setCell ⟨cn,0,none⟩ (.int .i64 q)).cell? ⟨W.heap.size,3,none⟩ = some (.slice b m d):=(aJ (show (W1.setCell ⟨cn,0,none⟩ (.int .i64 q)).heap[W.heap.size]? = _ from (Below.heap_setCell _ _ _ _ (by have:=LT.out;show W.heap.size ≠ cn;omega)).trans R0.out)).1.2.2.2
  clear hq hq2 hc
  go_enter Tryz.func55,Tryz.ntmps55
  go_wp2
  clear y0 y1 y2 y3 y3' v0 v1 hW1 n1 n2 m1 m2 p1 p2 WZ
  go_loopw [19] (fun i wr=>∃ j : Nat,j ≤ m ∧ i = .int .i64 j ∧ Hid (But1 cn W wr ∧ CtS cn cf (q + cF (fs.take j)) wr)) (fun i _=>m - (intOf i).toNat)
  case atStart=>exact ⟨0,Nat.zero_le _,rfl,A0.out⟩
  case round =>
   obtain ⟨j,hj,rfl,hs⟩:=hrel
   clear A0
   have fa:=rS HS.out.n hs.out.1 HY.out
   by_cases hlt : j < m
   ·obtain ⟨T,hT⟩:=aX (l:=fs) (j:=j) (by rw [← L2.out];exact hlt)
    obtain ⟨bb,off,rfl,hc⟩:=fa.get (aZ hT)
    obtain ⟨x0,x1,x2,x3,x4,x5,hx⟩:=hc j _ hT
    have c0:=hx.c0;have c1:=hx.c1;have c2:=hx.c2;have c3:=hx.c3
    have RC:=Lib.hid (ROUND.out wr j T x0 x1 x2 x3 x4 x5 hT hs.out.1 hs.out.2 hx.at_ hx.at')
    have v2 : ∀ o,(wr.alloc o).cell? ⟨cf,0,none⟩ = some (.func (.func 55) #[] #[one cn,one cf]):=fun o=>(row1 (aI o hs.out.2.f)).1
    clear hc hx hT fa
    go_wp2_with (go_at_call 55;refine (RC.out _).mono ?_;rintro e w3 ⟨rfl,h3,s3⟩;have H3:=Lib.hid (And.intro h3 s3);clear h3 s3 RC)
    go_roundw
    case rel=>exact ⟨j + 1,by omega,by go_num,H3.out⟩
    case measure=>simp [intOf];omega
   ·have e : fs.take j = fs:=List.take_of_length_le (by rw [← L2.out];omega)
    have hs2:=hs.out
    rw [e] at hs2
    have FF:=Lib.hid (FIN.out _ hs2.1 hs2.2)
    clear hs2 e fa
    go_wp2
    go_end0
    exact ⟨rfl,FF.out⟩
mutual
theorem AD (cn cf : Nat) : ∀ f : Fm,WG cn cf f
 | .mk op nm ts fs=>wg_step cn cf op nm ts fs (yX cn cf fs)
theorem yX (cn cf : Nat) : ∀ fs : List Fm,∀ t ∈ fs,WG cn cf t
 | [],_,h=>by cases h
 | x :: xs,t,h=>by
  rcases List.mem_cons.1 h with e | e
  ·rw [e];exact AD cn cf x
  ·exact yX cn cf xs t e
end
end Go.Proofs.YtppfalbnhnpbnaaGreatDoor
namespace Ly
mutual
theorem Fm.ren_wt (s : Sy) (b : Bs) : ∀ f : Fm,(f.ren s b).wt = f.wt
 | .mk op n ts fs=>by
  have ih:=mC s b fs
  rw [Fm.ren]
  split
  ·simp only [Fm.wt,ih]
  ·split
   ·rfl
   ·simp only [Fm.wt,ih]
theorem mC (s : Sy) (b : Bs) : ∀ l : List Fm,cF (bN s b l) = cF l
 | []=>rfl
 | f :: fs=>by rw [bN,cF,cF,Fm.ren_wt s b f,mC s b fs]
end
mutual
theorem Fm.norm_wt (fr : List Bs) : ∀ (ar : List (Bs × Bs)) (f : Fm),(f.norm fr ar).wt = f.wt
 | ar,.mk op n ts fs=>by
  rw [Fm.norm]
  split
  ·rw [Fm.wt,Fm.wt,mZ fr _ fs]
  ·rw [Fm.wt,Fm.wt,mZ fr _ fs]
theorem mZ (fr : List Bs) : ∀ (ar : List (Bs × Bs)) (l : List Fm),cF (bG fr ar l) = cF l
 | _,[]=>rfl
 | ar,f :: fs=>by rw [bG,cF,cF,Fm.norm_wt fr ar f,mZ fr ar fs]
end
theorem pA : ∀ l : List Fm,cF (l.map Fm.normal) = cF l
 | []=>rfl
 | f :: l=>by rw [List.map_cons,cF,cF,pA l,Fm.normal,Fm.norm_wt]
theorem oZ : ∀ (l : List Fm) (σ : List Sy),(∀ f ∈ l,f.right = true) → dP σ (l.map Fm.normal) = dP σ l
 | [],_,_=>rfl
 | f :: l,σ,h=>by
  have e : f.normal.sk σ = f.sk σ:=by unfold Fm.sk;rw [Fm.normal_idem (h f (by simp))]
  rw [List.map_cons,dP,dP,e,oZ l _ fun g hg=>h g (by simp [hg])]
theorem normal_skOf {L R : List Fm} (hL : ∀ f ∈ L,f.right = true) (hR : ∀ f ∈ R,f.right = true) : skOf (L.map Fm.normal) (R.map Fm.normal) = skOf L R:=by
 unfold skOf
 rw [oZ L _ hL,oZ R _ hR]
end Ly
namespace Ly
theorem nxt_wt (s : Sy) (b : Bs) (c : List Fm × List Fm) : cF (nxt s b c).1 = cF c.1 ∧ cF (nxt s b c).2 = cF c.2:=by
 unfold nxt
 rcases iL s b c.1 c.2 with e | e | ⟨e,-,-⟩
 ·rw [e];exact ⟨rfl,rfl⟩
 ·rw [e];exact ⟨rfl,rfl⟩
 ·rw [e];exact ⟨mC s b _,mC s b _⟩
theorem yN (bits : Nat) : ∀ (ps : List (Sy × Bs)) (i : Nat) (c : List Fm × List Fm),cF (rens bits i ps c).1 = cF c.1 ∧ cF (rens bits i ps c).2 = cF c.2
 | [],_,_=>⟨rfl,rfl⟩
 | p :: ps,i,c=>by
  rw [rens]
  have ih:=yN bits ps (i + 1) (if bits / 2 ^ i % 2 = 0 then c else nxt p.1 p.2 c)
  rw [ih.1,ih.2]
  split
  ·exact ⟨rfl,rfl⟩
  ·exact nxt_wt p.1 p.2 c
theorem rens_weight (bits : Nat) (L R : List Fm) : cF ((rens bits 0 prs (L,R)).1.map Fm.normal ++ (rens bits 0 prs (L,R)).2.map Fm.normal) = cF (L ++ R):=by
 have h:=yN bits prs 0 (L,R)
 rw [mE,mE,pA,pA,h.1,h.2]
end Ly
namespace Ly
open Go.Proofs.YtppfalbnhnpbnaaGreatDoor
theorem sI : ∀ {l : List Fm},(∀ f ∈ l,f.right = true) → aG l ≤ 400 * l.length
 | [],_=>Nat.le_refl _
 | f :: l,h=>by
  have h1:=h f (by simp)
  have h2:=sI (l:=l) fun g hg=>h g (by simp [hg])
  unfold Fm.right at h1
  simp only [Bool.and_eq_true,decide_eq_true_eq] at h1
  rw [aG,List.length_cons]
  omega
theorem wH {L R : List Fm} (h : okSq L R) : aG (L ++ R) ≤ 1000000:=by
 have h1:=sI h.1
 have h2:=sI h.2.1
 have:=h.2.2.1
 have:=h.2.2.2
 rw [dY]
 omega
theorem normal_ok {L R : List Fm} (h : okSq L R) : okSq (L.map Fm.normal) (R.map Fm.normal) :=
 ⟨fun f hf=>by obtain ⟨g,hg,rfl⟩:=List.mem_map.1 hf;exact (Fm.normal_right (h.1 g hg)).1,fun f hf=>by obtain ⟨g,hg,rfl⟩:=List.mem_map.1 hf;exact (Fm.normal_right (h.2.1 g hg)).1,by rw [List.length_map];exact h.2.2.1,by rw [List.length_map];exact h.2.2.2⟩
theorem Kept.ok {L R L' R' : List Fm} (h : Kept L R L' R') (k : okSq L R) : okSq L' R':=⟨h.l,h.r,by rw [h.ll];exact k.2.2.1,by rw [h.lr];exact k.2.2.2⟩
theorem ren_okSq {s : Sy} {b : Bs} {L R : List Fm} (n : gG s b) (k : okSq L R) : okSq (bN s b L) (bN s b R):=⟨ren_right n k.1,ren_right n k.2.1,by rw [fW];exact k.2.2.1,by rw [fW];exact k.2.2.2⟩
theorem wM (bits : Nat) {L R : List Fm} (k : okSq L R) : Kept L R (rens bits 0 prs (L,R)).1 (rens bits 0 prs (L,R)).2 :=
 uG (by have:=k.2.2.1;have:=k.2.2.2;omega) prs 0 (L,R) mH (Kept.refl k.1 k.2.1)
theorem rens_norm (bits : Nat) {L R : List Fm} (k : okSq L R) : skOf ((rens bits 0 prs (L,R)).1.map Fm.normal) ((rens bits 0 prs (L,R)).2.map Fm.normal) = skOf L R:=by
 have h:=wM bits k
 rw [normal_skOf h.l h.r,h.sk]
theorem prs_code (p : Sy × Bs) (hp : p ∈ prs) {L R : List Fm} (k : okSq L R) : ((renP p.1 p.2 L R).2.2 = 300 ∨ (renP p.1 p.2 L R).2.2 = 6) ∨ ((renP p.1 p.2 L R).2.2 = 0 ∧ okSq (renP p.1 p.2 L R).1 (renP p.1 p.2 L R).2.1 ∧
  ((renP ⟨p.1.sort,p.2,p.1.ar⟩ p.1.name (renP p.1 p.2 L R).1 (renP p.1 p.2 L R).2.1 = ([],[],300) ∧ p.1.sort = 117) ∨ renP ⟨p.1.sort,p.2,p.1.ar⟩ p.1.name (renP p.1 p.2 L R).1 (renP p.1 p.2 L R).2.1 = (L,R,0))):=by
 rcases iL p.1 p.2 L R with e | e | ⟨e,-,-⟩
 ·exact .inl (.inl (by rw [e]))
 ·exact .inl (.inr (by rw [e]))
 ·have z : (renP p.1 p.2 L R).2.2 = 0:=by rw [e]
  exact .inr ⟨z,by rw [e];exact ren_okSq (mH p hp) k,back_law (mH p hp) k.1 k.2.1 z⟩
theorem prs_vars : ∀ p ∈ prs,p.1.sort = 117 → p.1.name = [120] ∨ p.1.name = [121] ∨ p.1.name = [122]:=by
 intro p hp h
 simp only [prs,List.mem_cons,List.mem_nil_iff,or_false] at hp
 rcases hp with rfl | rfl | rfl | rfl | rfl | rfl | rfl | rfl | rfl | rfl | rfl | rfl | rfl
 all_goals first | (cases h;done) | exact .inl rfl | exact .inr (.inl rfl) | exact .inr (.inr rfl)
end Ly
namespace Go.Proofs.YtppfalbnhnpbnaaGreatDoor
open Go Go.RowKit Ly
set_option maxRecDepth 10000
theorem dD (p : Nat → Bool) (w : World) : bR (hide p w) w:=fun a v h=>by
 rw [cV (eX h)] at h
 exact h
theorem yA (k : IntKind) (j : Nat) (p : Sy × Bs) (h : prs[j]? = some p) (w : World) : (Instr.index 62 (.agg prsV) (.int k j)).run Tryz.prog w = .ok (.agg #[str p.1.name,.int .i64 p.1.ar,str p.2,.int .i64 p.1.ar]) w:=by
 have hj : j < 13:=(List.getElem?_eq_some_iff.1 h).1
 rcases (show j = 0 ∨ j = 1 ∨ j = 2 ∨ j = 3 ∨ j = 4 ∨ j = 5 ∨ j = 6 ∨ j = 7 ∨ j = 8 ∨ j = 9 ∨ j = 10 ∨ j = 11 ∨ j = 12 by omega) with rfl | rfl | rfl | rfl | rfl | rfl | rfl | rfl | rfl | rfl | rfl | rfl | rfl
 all_goals
  simp only [prs,List.getElem?_cons_zero,List.getElem?_cons_succ,Option.some.injEq] at h
  subst h
  exact (show _ = _ by kernel_rfl)
theorem and1_u16 {q : Nat} (h : q < 65536) : bits .and .u16 (q : Int) 1 = ((q % 2 : Nat) : Int):=by
 have e : (BitVec.ofInt 16 (q : Int) &&& BitVec.ofInt 16 1).toNat = q % 2:=by
  rw [BitVec.toNat_and,BitVec.toNat_ofInt,BitVec.toNat_ofInt]
  have h1 : ((q : Int) % (2 ^ 16 : Nat)).toNat = q:=by omega
  have h2 : ((1 : Int) % (2 ^ 16 : Nat)).toNat = 1:=by decide
  rw [h1,h2,Nat.and_one_is_mod]
 show IntKind.u16.wrap ((BitVec.ofInt 16 (q : Int) &&& BitVec.ofInt 16 1).toNat : Nat) = _
 rw [e]
 rcases Nat.mod_two_eq_zero_or_one q with h | h <;> rw [h] <;> rfl
theorem row4 {w : World} {b : Nat} {x y z t : Value} {ty : TypeId} (h : w.heap[b]? = some (.cells #[x,y,z,t] ty (0,0))) : w.cell? ⟨b,0,none⟩ = some x ∧ w.cell? ⟨b,1,none⟩ = some y ∧ w.cell? ⟨b,2,none⟩ = some z ∧ w.cell? ⟨b,3,none⟩ = some t :=
 ⟨(bL h 0).trans rfl,(bL h 1).trans rfl,(bL h 2).trans rfl,(bL h 3).trans rfl⟩
theorem res24 (tmps : Array Value) (w : World) (g : Nat) (a b z : Value) (h3 : tmps.getD 4 undef = one g) (h4 : tmps.getD 5 undef = z) (hg : w.heap[g]? = some (.cells #[a,b] 26 (0,0))) :
  (results Tryz.f24 tmps).run Tryz.prog w = .ok (.tuple #[.agg #[a,b],z]) w:=by
 have e3 : tmps[4]?.getD undef = .pointer (some ⟨g,0,none⟩):=by simpa using h3
 have e4 : tmps[5]?.getD undef = z:=by simpa using h4
 simp [results,Tryz.results24,e3,e4,asAddr,run_loadVar_row w g 26 26 #[a,b] (0,0) _ hg Tryz.underlying26 rfl iSq]
structure RmS (W : World) (cL cR : List Fm) (X : World) : Prop where
 bw : Below W.heap.size W X
 s2 : cM W.heap.size cL cR X
 r4 : X.heap[W.heap.size + 1]? = some (.cells #[.slice none 0 0,.slice none 0 0] 26 (0,0))
theorem RmS.next {W : World} {cL cR : List Fm} {X Y : World} (h : RmS W cL cR X) (b : Below X.heap.size X Y) : RmS W cL cR Y:=⟨aE h.bw b,h.s2.below b,kc b h.r4⟩
theorem xE {X : World} {g : Nat} {L R : List Fm} {x y : Value} {a b : Option Addr} {n c m d : Nat} (h7 : X.heap[g]? = some (.cells #[x,y] 26 (0,0))) (hL : aL X L (.slice a n c)) (hR : aL X R (.slice b m d)) :
  ((X.setCell ⟨g,0,none⟩ (.slice a n c)).setCell ⟨g,1,none⟩ (.slice b m d)).heap[g]? = some (.cells #[.slice a n c,.slice b m d] 26 (0,0)) ∧ aL ((X.setCell ⟨g,0,none⟩ (.slice a n c)).setCell ⟨g,1,none⟩ (.slice b m d)) L (.slice a n c) ∧ aL ((X.setCell ⟨g,0,none⟩ (.slice a n c)).setCell ⟨g,1,none⟩ (.slice b m d)) R (.slice b m d) ∧
   ∀ k,k ≠ g → ((X.setCell ⟨g,0,none⟩ (.slice a n c)).setCell ⟨g,1,none⟩ (.slice b m d)).heap[k]? = X.heap[k]?:=by
 have key : ∀ k,k ≠ g → ((X.setCell ⟨g,0,none⟩ (.slice a n c)).setCell ⟨g,1,none⟩ (.slice b m d)).heap[k]? = X.heap[k]?:=fun k hk=>by rw [Below.heap_setCell _ _ _ _ hk,Below.heap_setCell _ _ _ _ hk]
 exact ⟨(aC (o:=1) (u:=.slice b m d) (aC (o:=0) (u:=.slice a n c) h7)).trans rfl,hL.away h7 key,hR.away h7 key,key⟩
theorem RmS.set {W : World} {cL cR L R : List Fm} {X : World} {a b : Option Addr} {n c m d : Nat} (h : RmS W cL cR X) (hL : aL X L (.slice a n c)) (hR : aL X R (.slice b m d)) : RmS W L R ((X.setCell ⟨W.heap.size,0,none⟩ (.slice a n c)).setCell ⟨W.heap.size,1,none⟩ (.slice b m d)):=by
 obtain ⟨a',n',c',b',m',d',h0,h1,h2⟩:=h.s2
 obtain ⟨k1,k2,k3,k4⟩:=xE h0 hL hR
 exact ⟨(h.bw.setCell (Nat.le_refl _) _).setCell (Nat.le_refl _) _,⟨_,_,_,_,_,_,k1,k2,k3⟩,(k4 _ (by omega)).trans h.r4⟩
theorem prs_drop {j : Nat} {p : Sy × Bs} (h : prs[j]? = some p) : prs.drop j = p :: prs.drop (j + 1):=by
 obtain ⟨h1,h2⟩:=List.getElem?_eq_some_iff.1 h
 rw [List.drop_eq_getElem_cons h1,h2]
set_option maxHeartbeats 8000000 in
theorem renamed24_c (L R : List Fm) (k : okSq L R) (x : Value) (W : World) (bt : Nat) (hb : bt < 65536) (hr : cZ W) (hx0 : bT W L R x) :
  Calls Tryz.prog 24 #[x,.int .u16 bt] W fun e w'=>∃ a n c b m d,e = .returned (.tuple #[.agg #[.slice a n c,.slice b m d],.bool true]) ∧ aL w' (rens bt 0 prs (L,R)).1 (.slice a n c) ∧ aL w' (rens bt 0 prs (L,R)).2 (.slice b m d) ∧ Below W.heap.size W w':=by
 obtain ⟨xa,xn,xc,xb,xm,xd,rfl,hx,hy⟩:=hx0
 obtain ⟨T,hT⟩ : ∃ T,rens bt 0 prs (L,R) = T:=⟨_,rfl⟩
 rw [hT]
 have HT:=Lib.hid hT
 have KE:=Lib.hid (Kept.refl k.1 k.2.1)
 have RC : Hid (∀ (p : Sy × Bs),p ∈ prs → ∀ cL cR,Kept L R cL cR → ∀ X x,Below W.heap.size W X → bT X cL cR x → Calls Tryz.prog 29 #[x,.agg #[str p.1.name,.int .i64 p.1.ar],.agg #[str p.2,.int .i64 p.1.ar]] X (RetR (renP p.1 p.2 cL cR).1 (renP p.1 p.2 cL cR).2.1 (renP p.1 p.2 cL cR).2.2 X)):=fun p hp cL cR hk X x hX hv=>yL p hp cL cR x X (hr.keep (aA hX)) hv (hk.ok k)
 have LK : Hid (L.length + R.length ≤ 200):=by have:=k.2.2.1;have:=k.2.2.2;show _ ≤ _;omega
 have HB:=Lib.hid hb
 obtain ⟨W0,hW0⟩ : ∃ W0,(W.alloc (.cells #[.slice xa xn xc,.slice xb xm xd] 26)).alloc (.cells #[.slice none 0 0,.slice none 0 0] 26) = W0:=⟨_,rfl⟩
 have S0 : Hid (RmS W L R W0):=by
  have b0 : Below W.heap.size W W0:=by rw [← hW0];exact ((Below.refl _ _).alloc (Nat.le_refl _) _).alloc (by simp) _
  refine ⟨b0,⟨_,_,_,_,_,_,by rw [← hW0];exact aI _ (heap_alloc_new W _),hx.keep (aA b0),hy.keep (aA b0)⟩, ?_⟩
  rw [← hW0]
  have:=heap_alloc_new (W.alloc (.cells #[.slice xa xn xc,.slice xb xm xd] 26)) (.cells #[.slice none 0 0,.slice none 0 0] 26)
  rw [World.size_alloc] at this
  exact this
 clear hT hr hx hy k hb
 go_enter Tryz.func24,Tryz.ntmps24
 go_wp2_with (go_at_call 28;refine (jY _).mono ?_;rintro e w1 ⟨rfl,b1⟩;have S1:=Lib.hid (S0.out.next b1);clear b1 S0)
 clear hW0
 go_loopw [11] (fun i wr=>∃ (j : Nat) (cL cR : List Fm),j ≤ 13 ∧ i = .int .i64 j ∧ Hid (RmS W cL cR wr ∧ Kept L R cL cR ∧ rens bt j (prs.drop j) (cL,cR) = T)) (fun i _=>13 - (intOf i).toNat)
 case atStart=>exact ⟨0,L,R,Nat.zero_le _,rfl,S1.out,KE.out,HT.out⟩
 case round =>
  obtain ⟨j,cL,cR,hj,rfl,HS⟩:=hrel
  clear S1 HT KE
  by_cases hlt : j < 13
  ·obtain ⟨⟨s,b⟩,hp⟩ : ∃ p,prs[j]? = some p:=aX (l:=prs) (j:=j) (by simpa [prs] using hlt)
   have IX : ∀ w,(Instr.index 62 (.agg prsV) (.int .i64 j)).run Tryz.prog w = .ok (.agg #[str s.name,.int .i64 s.ar,str b,.int .i64 s.ar]) w:=yA .i64 j (s,b) hp
   have RC1:=RC.out (s,b) (List.mem_of_getElem? hp) cL cR HS.out.2.1
   have NW:=Lib.hid (mH (s,b) (List.mem_of_getElem? hp))
   have HD:=Lib.hid (prs_drop hp)
   simp only at RC1
   clear hp
   have j0 : (0 : Int) ≤ (j : Int):=by omega
   have j16 : (j : Int) ≤ 16:=by omega
   obtain ⟨q,hq⟩ : ∃ q : Nat,bt / 2 ^ j = q:=⟨_,rfl⟩
   have q16 : q < 65536:=by rw [← hq];exact Nat.lt_of_le_of_lt (Nat.div_le_self _ _) HB.out
   have hq' : (bt : Int) / 2 ^ j = (q : Int):=by rw [← hq];simp
   have HQ:=Lib.hid hq
   have hand:=and1_u16 q16
   obtain ⟨wn,hwn⟩ : ∃ wn,wr.alloc (.cells #[str s.name,.int .i64 s.ar,str b,.int .i64 s.ar] 61) = wn:=⟨_,rfl⟩
   have bn : Below wr.heap.size wr wn:=by rw [← hwn];exact aT _ _
   have SN:=Lib.hid (HS.out.1.next bn)
   obtain ⟨a1,n1,c1,a2,n2,c2,hg,h1,h2⟩:=SN.out.s2
   obtain ⟨p0,p1,-,-⟩:=row2 hg
   have r7 : wn.heap[wr.heap.size]? = some (.cells #[str s.name,.int .i64 s.ar,str b,.int .i64 s.ar] 61 (0,0)):=by rw [← hwn];exact heap_alloc_new _ _
   obtain ⟨t0,t1,t2,t3⟩:=row4 r7
   have VX : Hid (bT wn cL cR (.agg #[.slice a1 n1 c1,.slice a2 n2 c2])):=⟨_,_,_,_,_,_,rfl,h1,h2⟩
   have RC1:=fun x hv=>RC1 wn x SN.out.bw hv
   clear hg h1 h2 r7 bn hq
   rcases Nat.mod_two_eq_zero_or_one q with e2 | e2
   ·rw [e2] at hand
    have E2 : Hid (bt / 2 ^ j % 2 = 0):=by rw [Hid,HQ.out];exact e2
    clear e2
    go_wp2_with fail
    go_roundw
    case rel=>exact ⟨j + 1,cL,cR,by omega,by go_num,SN.out,HS.out.2.1,by rw [← HS.out.2.2,HD.out,rens,if_pos E2.out]⟩
    case measure=>simp [intOf];omega
   ·rw [e2] at hand
    have E2 : Hid (bt / 2 ^ j % 2 = 1):=by rw [Hid,HQ.out];exact e2
    clear e2
    rcases iL s b cL cR with e | e | ⟨e,aw,-⟩
    ·rw [e] at RC1
     have HE:=Lib.hid e
     clear e
     go_wp2_with (
            go_at_call 29
            refine (RC1 _ VX.out).mono ?_
            rintro e w3 ⟨fa,fn,fc,ga,gm,gd,rfl,h3,h4,b3⟩
            have S3:=Lib.hid (SN.out.next b3)
            skip
            clear h3 h4 b3 p0 p1 t0 t1 t2 t3 hwn)
     go_roundw
     case rel=>exact ⟨j + 1,cL,cR,by omega,by go_num,S3.out.next (aT _ _),HS.out.2.1,by rw [← HS.out.2.2,HD.out,rens,if_neg (by rw [E2.out];decide),nxt,HE.out];rfl⟩
     case measure=>simp [intOf];omega
    ·rw [e] at RC1
     have HE:=Lib.hid e
     clear e
     go_wp2_with (
            go_at_call 29
            refine (RC1 _ VX.out).mono ?_
            rintro e w3 ⟨fa,fn,fc,ga,gm,gd,rfl,h3,h4,b3⟩
            have S3:=Lib.hid (SN.out.next b3)
            skip
            clear h3 h4 b3 p0 p1 t0 t1 t2 t3 hwn)
     go_roundw
     case rel=>exact ⟨j + 1,cL,cR,by omega,by go_num,S3.out.next (aT _ _),HS.out.2.1,by rw [← HS.out.2.2,HD.out,rens,if_neg (by rw [E2.out];decide),nxt,HE.out];rfl⟩
     case measure=>simp [intOf];omega
    ·rw [e] at RC1
     have HE:=Lib.hid e
     have AW:=Lib.hid aw
     clear e aw
     go_wp2_with (
            go_at_call 29
            refine (RC1 _ VX.out).mono ?_
            rintro e w3 ⟨fa,fn,fc,ga,gm,gd,rfl,h3,h4,b3⟩
            have S3:=Lib.hid (SN.out.next b3)
            have H3:=Lib.hid (And.intro (h3.keep (dD _ _)) (h4.keep (dD _ _)))
            have lt3 : W.heap.size < w3.heap.size:=(Array.getElem?_eq_some_iff.1 S3.out.s2.choose_spec.choose_spec.choose_spec.choose_spec.choose_spec.choose_spec.1).1
            obtain ⟨W8,hW8⟩ : ∃ W8,w3.alloc (.cells #[.slice fa fn fc,.slice ga gm gd] 26) = W8:=⟨_,rfl⟩
            have b8 : Below w3.heap.size w3 W8:=by rw [← hW8];exact aT _ _
            have S7:=Lib.hid (S3.out.next b8)
            have S8:=Lib.hid (S7.out.set (H3.out.1.keep (aA b8)) (H3.out.2.keep (aA b8)))
            obtain ⟨a1',n1',c1',a2',n2',c2',hg,-,-⟩:=S7.out.s2
            obtain ⟨y0,y1,y2,y3⟩:=row2 hg
            obtain ⟨x0,x1,-,-⟩:=row2 (show W8.heap[w3.heap.size]? = some (.cells #[.slice fa fn fc,.slice ga gm gd] 26 (0,0)) by rw [← hW8];exact heap_alloc_new _ _)
            clear hg b8
            clear h3 h4 b3 p0 p1 t0 t1 t2 t3 hwn)
     go_roundw
     case rel=>exact ⟨j + 1,_,_,by omega,by go_num,S8.out,HS.out.2.1.ren NW.out LK.out AW.out,by rw [← HS.out.2.2,HD.out,rens,if_neg (by rw [E2.out];decide),nxt,HE.out];rfl⟩
     case measure=>simp [intOf];omega
  ·have e13 : j = 13:=by omega
   subst e13
   obtain ⟨⟨bw,⟨a1,n1,c1,a2,n2,c2,hg,h1,h2⟩,r4⟩,kp,re⟩:=HS.out
   obtain ⟨p0,p1,-,-⟩:=row2 hg
   obtain ⟨z0,z1,z2,z3⟩:=row2 r4
   have re : (cL,cR) = T:=re
   subst re
   obtain ⟨k1,k2,k3,k4⟩:=xE r4 h1 h2
   have K1:=Lib.hid k1
   have KB:=Lib.hid (And.intro k2 (And.intro k3 (show Below W.heap.size W ((wr.setCell ⟨W.heap.size + 1,0,none⟩ (.slice a1 n1 c1)).setCell ⟨W.heap.size + 1,1,none⟩ (.slice a2 n2 c2)) from (bw.setCell (Nat.le_succ _) _).setCell (Nat.le_succ _) _)))
   clear hg h1 h2 r4 k1 k2 k3 k4 bw HS hlt hj RC LK HB
   go_wp2_with fail
   exact bodyPost_ret (res24 _ _ (W.heap.size + 1) (.slice a1 n1 c1) (.slice a2 n2 c2) _ rfl rfl K1.out) rfl ⟨_,_,_,_,_,_,rfl,KB.out.1,KB.out.2.1,KB.out.2.2⟩
end Go.Proofs.YtppfalbnhnpbnaaGreatDoor
