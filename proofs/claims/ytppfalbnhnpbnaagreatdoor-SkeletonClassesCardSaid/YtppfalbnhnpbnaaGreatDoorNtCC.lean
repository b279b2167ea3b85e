/- names.part: a formula gets its names. Conditions: those of each statement; strconv's table lies as laid. -/
import Derived.Test.YtppfalbnhnpbnaaGreatDoorNtBC
set_option linter.unusedSimpArgs false
set_option linter.unusedVariables false
namespace Go.Proofs.YtppfalbnhnpbnaaGreatDoor
open Go Go.RowKit Ly
set_option maxRecDepth 10000
def RetP (g1 c1 gm cm : Nat) (b : List Bs) (σ : List Sy) (f : Fm) (W : World) (e : Ending) (w' : World) : Prop :=
 ∃ v,e = .returned v ∧ aV (hide (lo W) w') (f.told b σ).1 v ∧ aY g1 c1 gm cm (f.told b σ).2 w' ∧ ButE (EN gm cm) W w'
def AD (g1 c1 gm cm : Nat) (b : List Bs) (σ : List Sy) (fs : List Fm) (W : World) (e : Ending) (w' : World) : Prop :=
 ∃ v,e = .returned v ∧ aN (hide (lo W) w') (bM b σ fs).1 v ∧ aY g1 c1 gm cm (bM b σ fs).2 w' ∧ ButE (EN gm cm) W w'
def NP (f : Fm) : Prop:=∀ (g1 c1 gm cm : Nat) (b : List Bs) (σ : List Sy) (vb : Value) (W : World) (x : Value),aY g1 c1 gm cm σ W → eP W b vb → cK W → aV W f x → f.ok = true → f.nodes ≤ 1000 → σ.length + f.nodes ≤ 900000 →
 Calls Tryz.prog 73 #[gI g1 c1 vb,x] W (RetP g1 c1 gm cm b σ f W)
theorem vT {f : Fm} : ∀ {fs : List Fm},bW fs = true → f ∈ fs → f.ok = true
 | [],_,h=>by cases h
 | x :: fs,ho,h=>by
  rw [bW,Bool.and_eq_true] at ho
  rcases List.mem_cons.1 h with rfl | h
  ·exact ho.1
  ·exact vT ho.2 h
theorem fmsLen_le' : ∀ fs : List Fm,fs.length ≤ aD fs
 | []=>Nat.zero_le _
 | .mk v n us gs :: ts=>by have:=fmsLen_le' ts;simp [aD,Fm.nodes];omega
theorem parts_told (fs : List Fm) (ih : ∀ t ∈ fs,NP t) (g1 c1 gm cm : Nat) (b : List Bs) (σ : List Sy) (vb : Value) (W : World) (a : Option Addr) (n c : Nat) (h : aY g1 c1 gm cm σ W) (hb : eP W b vb) (hp : cK W) (hx : aN W fs (.slice a n c)) (ho : bW fs = true) (hn : aD fs ≤ 1000) (hl : σ.length + aD fs ≤ 900000) :
  Calls Tryz.prog 69 #[.slice a n c,.func (.func 73) #[gI g1 c1 vb] #[]] W (AD g1 c1 gm cm b σ fs W):=by
 have lt:=h.lt
 refine (each73_c (EN gm cm) (gI g1 c1 vb) (fun σ W=>aY g1 c1 gm cm σ W) (fun σ t=>Fm.told b σ t) W fs σ a n c hx (by have:=fmsLen_le' fs;omega) h (aY.steady g1 c1 gm cm lt) (fun s X hX k hk=>hX.maps hk) (fun k hk=>by rcases hk with rfl | rfl <;> omega) (fun j t ht X x hI hX hv=>?_)).mono ?_
 ·have e : stAt (fun σ t=>Fm.told b σ t) σ fs j = (bM b σ (fs.take j)).2:=by unfold stAt;rw [mO]
  rw [e] at hI ⊢
  have hm:=List.mem_of_getElem? ht
  have h1:=kZ b σ (fs.take j)
  have h2:=jH fs j ht
  exact ih t hm g1 c1 gm cm b _ vb X x hI (hb.keep (h.keepE hX)) (h.powE hX hp) hv (vT ho hm) (by omega) (by omega)
 ·rintro e w' ⟨v,rfl,h1,h2,h3⟩
  rw [mO] at h1 h2
  exact ⟨v,rfl,h1,h2,h3⟩
structure MidP (g1 c1 gm cm : Nat) (σ : List Sy) (W : World) (f : Value) (vb : Value) (op : Int) (nm : Bs) (sl sm : Value) (X : World) : Prop where
 na : aY g1 c1 gm cm σ X
 bt : ButE (EN gm cm) W X
 r0 : X.heap[W.heap.size]? = some (.cells #[f,vb] 80 (0,0))
 r1 : X.heap[W.heap.size + 1]? = some (.cells #[.int .u8 op,str nm,sl,sm] 40 (0,0))
 r2 : X.heap[W.heap.size + 1 + 1]? = some (.cells #[.int .u8 0,str [],.slice none 0 0,.slice none 0 0] 40 (0,0))
section
variable {g1 c1 gm cm : Nat} {σ σ' : List Sy} {W : World} {f vb : Value} {op : Int} {nm : Bs} {sl sm : Value} {X Y : World}
theorem MidP.next (h : MidP g1 c1 gm cm σ W f vb op nm sl sm X) (hE : ∀ k,EN gm cm k → k < W.heap.size) (n' : aY g1 c1 gm cm σ' Y) (b : ButE (EN gm cm) X Y) : MidP g1 c1 gm cm σ' W f vb op nm sl sm Y:=by
 have key : ∀ k o,W.heap.size ≤ k → X.heap[k]? = some o → Y.heap[k]? = some o:=fun k o hk e=>(b.block k (Array.getElem?_eq_some_iff.1 e).1 (fun he=>by have:=hE k he;omega)).trans e
 exact ⟨n',h.bt.trans b,key _ _ (Nat.le_refl _) h.r0,key _ _ (by omega) h.r1,key _ _ (by omega) h.r2⟩
theorem MidP.set (h : MidP g1 c1 gm cm σ W f vb op nm sl sm X) (hlt : g1 < W.heap.size ∧ c1 < W.heap.size ∧ gm < W.heap.size ∧ cm < W.heap.size) (o : Nat) (u : Value) (nm' : Bs) (sl' sm' : Value) (e : (#[.int .u8 op,str nm,sl,sm] : Array Value).setIfInBounds o u = #[.int .u8 op,str nm',sl',sm']) :
  MidP g1 c1 gm cm σ W f vb op nm' sl' sm' (X.setCell ⟨W.heap.size + 1,o,none⟩ u):=by
 have key : ∀ k,k ≠ W.heap.size + 1 → (X.setCell ⟨W.heap.size + 1,o,none⟩ u).heap[k]? = X.heap[k]?:=fun k hk=>Below.heap_setCell _ _ _ _ hk
 refine ⟨h.na.heap hlt (fun k hk=>key k (by omega)),h.bt.set (by omega) _ _,(key _ (by omega)).trans h.r0, ?_,(key _ (by omega)).trans h.r2⟩
 rw [aC h.r1,e]
end
set_option maxHeartbeats 8000000 in
theorem np_step (op : Int) (nm : Bs) (ts : List Tm) (fs : List Fm) (ih : ∀ t ∈ fs,NP t) : NP (.mk op nm ts fs):=by
 intro g1 c1 gm cm b σ vb W x h hb hp hx0 hok hn hl
 obtain ⟨a,N,c,a2,N2,c2,rfl,hx,hy⟩ : ∃ a N c a2 N2 c2,x = .agg #[.int .u8 op,str nm,.slice a N c,.slice a2 N2 c2] ∧ bG W ts (.slice a N c) ∧ aN W fs (.slice a2 N2 c2):=hx0
 obtain ⟨va,vn,vc,rfl⟩ : ∃ va vn vc,vb = .slice va vn vc:=by obtain ⟨a,c,rfl,-⟩:=At.sl_inv hb;exact ⟨_,_,_,rfl⟩
 have hlen:=hx.len
 have nd : (Fm.mk op nm ts fs).nodes = 1 + aF ts + aD fs:=by simp [Fm.nodes]
 rw [nd] at hn hl
 have N0 : N ≤ 1000:=by rw [hlen.1];have:=eO ts;omega
 have okk : cE ts = true ∧ bW fs = true ∧ (op = 1 → nm.length ≤ 16):=by
  unfold Fm.ok at hok
  simp only [Bool.and_eq_true] at hok
  refine ⟨hok.1.2,hok.2,fun e=>?_⟩
  have:=hok.1.1.2
  rw [if_pos e,Bool.and_eq_true] at this
  exact dE this.1
 obtain ⟨W0,hW0⟩ : ∃ W0,((W.alloc (.cells #[.func (.func 70) #[] #[one g1,one c1],.slice va vn vc] 80)).alloc (.cells #[.int .u8 op,str nm,.slice a N c,.slice a2 N2 c2] 40)).alloc (.cells #[.int .u8 0,str [],.slice none 0 0,.slice none 0 0] 40) = W0:=⟨_,rfl⟩
 have lt:=h.lt
 have M0 : MidP g1 c1 gm cm σ W (.func (.func 70) #[] #[one g1,one c1]) (.slice va vn vc) op nm (.slice a N c) (.slice a2 N2 c2) W0:=by
  have bw : Below W.heap.size W W0:=by rw [← hW0];exact (((Below.refl _ _).alloc (Nat.le_refl _) _).alloc (by simp) _).alloc (by simp;omega) _
  refine ⟨h.below bw,.of_below bw, ?_, ?_, ?_⟩
  ·rw [← hW0];exact aI _ (aI _ (heap_alloc_new W _))
  ·rw [← hW0]
   have:=heap_alloc_new (W.alloc (.cells #[.func (.func 70) #[] #[one g1,one c1],.slice va vn vc] 80)) (.cells #[.int .u8 op,str nm,.slice a N c,.slice a2 N2 c2] 40)
   rw [World.size_alloc] at this
   exact aI _ this
  ·rw [← hW0]
   have:=heap_alloc_new ((W.alloc (.cells #[.func (.func 70) #[] #[one g1,one c1],.slice va vn vc] 80)).alloc (.cells #[.int .u8 op,str nm,.slice a N c,.slice a2 N2 c2] 40)) (.cells #[.int .u8 0,str [],.slice none 0 0,.slice none 0 0] 40)
   rw [World.size_alloc,World.size_alloc] at this
   exact this
 have HM:=Lib.hid M0
 have H:=Lib.hid h
 have LT:=Lib.hid lt
 have L2:=Lib.hid hlen.1
 have LN : Hid (∀ k,EN gm cm k → k < W.heap.size):=fun k hk=>by rcases hk with rfl | rfl <;> omega
 have OKK:=Lib.hid okk
 have EC : Hid (∀ σ' nm' X,σ'.length ≤ σ.length + 1 → MidP g1 c1 gm cm σ' W (.func (.func 70) #[] #[one g1,one c1]) (.slice va vn vc) op nm' (.slice a N c) (.slice a2 N2 c2) X → Calls Tryz.prog 114 #[.slice a N c,.func (.func 123) #[.agg #[.func (.func 70) #[] #[one g1,one c1],.slice va vn vc]] #[]] X (yO g1 c1 gm cm b σ' ts X)):=fun σ' nm' X hs hX =>
  rW ts (fun t _=>zK t) g1 c1 gm cm b σ' (.slice va vn vc) X a N c hX.na (hb.keep (h.keepE hX.bt)) (h.powE hX.bt hp) (hx.keep (h.keepE hX.bt)) okk.1 (by omega) (by omega)
 have FC : Hid (∀ σ' σ'' nm' sl' X,σ'.length ≤ σ.length + 1 → σ'' = (aM b σ' ts).2 → MidP g1 c1 gm cm σ'' W (.func (.func 70) #[] #[one g1,one c1]) (.slice va vn vc) op nm' sl' (.slice a2 N2 c2) X → Calls Tryz.prog 69 #[.slice a2 N2 c2,.func (.func 73) #[.agg #[.func (.func 70) #[] #[one g1,one c1],.slice va vn vc]] #[]] X (AD g1 c1 gm cm b σ'' fs X)):=fun σ' σ'' nm' sl' X hs he hX =>
  parts_told fs ih g1 c1 gm cm b σ'' (.slice va vn vc) X a2 N2 c2 hX.na (hb.keep (h.keepE hX.bt)) (h.powE hX.bt hp) (hy.keep (h.keepE hX.bt)) okk.2.1 (by omega) (by have:=fA b σ' ts;rw [he];omega)
 have NC : Hid (∀ s,okY s → Calls Tryz.prog 70 #[.agg #[str [s.sort],str s.name,.int .i64 s.ar],one g1,one c1] W0 fun e w'=>e = .returned (str (Sy.told σ s)) ∧ aY g1 c1 gm cm (Sy.add σ s) w' ∧ But2 gm cm W0 w'):=fun s hs=>tK g1 c1 gm cm σ s W0 M0.na hs (h.powE M0.bt hp) (by omega)
 obtain ⟨d0,d1,-,-⟩:=row2 M0.r0
 obtain ⟨⟨y0,y1,y2,y3⟩,z0,z1,z2,z3⟩:=aL M0.r1
 clear M0 h hb hp hx hy lt hlen okk hn hl nd hok ih
 unfold gI
 go_enter Tryz.func73,Tryz.ntmps73
 by_cases hop : op = 1
 ·obtain ⟨nw,hnw⟩ : ∃ nw,Sy.told σ ⟨80,nm,ts.length⟩ = nw:=⟨_,rfl⟩
  obtain ⟨σ1,hσ⟩ : ∃ σ1,Sy.add σ ⟨80,nm,ts.length⟩ = σ1:=⟨_,rfl⟩
  have NC2 : Hid (Calls Tryz.prog 70 #[.agg #[.string ⟨#[80]⟩,str nm,.int .i64 N],one g1,one c1] W0 fun e w'=>e = .returned (str nw) ∧ aY g1 c1 gm cm σ1 w' ∧ But2 gm cm W0 w'):=by
   have:=NC.out ⟨80,nm,ts.length⟩ ⟨by have:=OKK.out.2.2 hop;show nm.length ≤ maxLen;unfold maxLen;omega,by show ts.length ≤ _;rw [← L2.out];omega⟩
   rw [L2.out,← hnw,← hσ]
   exact this
  have TE : Hid ((Fm.mk op nm ts fs).told b σ = (.mk op nw (aM b σ1 ts).1 (bM b (aM b σ1 ts).2 fs).1,(bM b (aM b σ1 ts).2 fs).2)):=by show _ = _;simp [Fm.told,dT,hop,hnw,hσ]
  have SL : Hid (σ1.length ≤ σ.length + 1):=by rw [← hσ];exact nC _ _
  obtain ⟨σ2,hs2⟩ : ∃ σ2,σ2 = (aM b σ1 ts).2:=⟨_,rfl⟩
  have S2:=Lib.hid hs2
  rw [← hs2] at TE
  clear NC hnw hσ hs2
  subst hop
  go_wp2_with (first
   | (
     go_at_call 70
     refine NC2.out.mono ?_
     rintro e w1 ⟨rfl,n1,b1⟩
     have M1:=Lib.hid (HM.out.next LN.out n1 b1.toE)
     clear n1 b1 NC2 d0 d1 y0 y1 y2 y3 z0 z1 z2 z3 hW0
     obtain ⟨⟨y0,y1,y2,y3⟩,z0,z1,z2,z3⟩:=aL M1.out.r1
     have M2:=Lib.hid (M1.out.set LT.out 1 (str nw) nw _ _ rfl)
     obtain ⟨t0,t1,-,-⟩:=row2 M2.out.r0
     obtain ⟨⟨u0,u1,u2,u3⟩,-,-,-,-⟩:=aL M2.out.r1)
   | (
     go_at_call 114
     refine (EC.out _ _ _ SL.out M2.out).mono ?_
     rintro e w3 ⟨v3,rfl,h3,n3,b3⟩
     obtain ⟨fa,fc,rfl,-,-,-,-⟩:=At.sl_inv h3
     rw [← S2.out] at n3
     have M3:=Lib.hid (M2.out.next LN.out n3 b3)
     have H3:=Lib.hid h3
     clear h3 n3 b3 y0 y1 y2 y3 z0 z1 z2 z3 t0 t1 u0 u1 u2 u3
     obtain ⟨⟨y0,y1,y2,y3⟩,z0,z1,z2,z3⟩:=aL M3.out.r1
     have M4:=Lib.hid (M3.out.set LT.out 2 (.slice fa (aM b σ1 ts).1.length fc) _ _ _ rfl)
     obtain ⟨⟨q0,q1,q2,q3⟩,-,-,-,-⟩:=aL M4.out.r1
     obtain ⟨e0,e1,-,-⟩:=row2 M4.out.r0)
   | (
     go_at_call 69
     refine (FC.out _ _ _ _ _ SL.out S2.out M4.out).mono ?_
     rintro e w5 ⟨v5,rfl,h5,n5,b5⟩
     obtain ⟨ka,kc,rfl,-,-,-,-⟩:=At.sl_inv h5
     have M5:=Lib.hid (M4.out.next LN.out n5 b5)
     have H5:=Lib.hid (And.intro h5 b5)
     clear h5 n5 b5 y0 y1 y2 y3 z0 z1 z2 z3 q0 q1 q2 q3 e0 e1
     obtain ⟨⟨y0,y1,y2,y3⟩,z0,z1,z2,z3⟩:=aL M5.out.r1
     have M6:=Lib.hid (M5.out.set LT.out 3 (.slice ka (bM b σ2 fs).1.length kc) _ _ _ rfl)
     obtain ⟨⟨q0,q1,q2,q3⟩,-,-,-,-⟩:=aL M6.out.r1
     obtain ⟨⟨s0,s1,s2,s3⟩,x0,x1,x2,x3⟩:=aL M6.out.r2))
  obtain ⟨h5,b5⟩:=H5.out
  have g:=aC (o:=3) (u:=.slice ka (bM b σ2 fs).1.length kc) (aC (o:=2) (u:=.slice fa (aM b σ1 ts).1.length fc) (aC (o:=1) (u:=str nw) (aC (o:=0) (u:=.int .u8 1) M6.out.r2)))
  have key : ∀ k,k ≠ W.heap.size + 1 + 1 → ((((((w5.setCell ⟨W.heap.size + 1,3,none⟩ (.slice ka (bM b σ2 fs).1.length kc)).setCell ⟨W.heap.size + 1 + 1,0,none⟩ (.int .u8 1)).setCell ⟨W.heap.size + 1 + 1,1,none⟩ (str nw)).setCell ⟨W.heap.size + 1 + 1,2,none⟩ (.slice fa (aM b σ1 ts).1.length fc)).setCell ⟨W.heap.size + 1 + 1,3,none⟩ (.slice ka (bM b σ2 fs).1.length kc)).heap[k]?) = (w5.setCell ⟨W.heap.size + 1,3,none⟩ (.slice ka (bM b σ2 fs).1.length kc)).heap[k]?:=fun k hk=>by rw [Below.heap_setCell _ _ _ _ hk,Below.heap_setCell _ _ _ _ hk,Below.heap_setCell _ _ _ _ hk,Below.heap_setCell _ _ _ _ hk]
  have key2 : ∀ k,W.heap.size + 1 + 1 < k → (w5.setCell ⟨W.heap.size + 1,3,none⟩ (.slice ka (bM b σ2 fs).1.length kc)).heap[k]? = w5.heap[k]?:=fun k hk=>Below.heap_setCell _ _ _ _ (by show k ≠ W.heap.size + 1;omega)
  have lw:=(Array.getElem?_eq_some_iff.1 M2.out.r2).1
  have lw4:=(Array.getElem?_eq_some_iff.1 M4.out.r2).1
  have l34 : w3.heap.size ≤ (w3.setCell ⟨W.heap.size + 1,2,none⟩ (.slice fa (aM b σ1 ts).1.length fc)).heap.size:=by simp
  refine bodyPost_ret (jV rfl _ _ (W.heap.size + 1 + 1) _ _ _ _ (0,0) rfl g) rfl ?_
  refine ⟨.agg #[.int .u8 1,str nw,.slice fa (aM b σ1 ts).1.length fc,.slice ka (bM b σ2 fs).1.length kc],rfl, ?_, ?_,((((M6.out.bt.set (by omega) _ _).set (by omega) _ _).set (by omega) _ _).set (by omega) _ _)⟩
  ·rw [TE.out]
   refine ⟨_,_,_,_,_,_,rfl, ?_, ?_⟩
   ·refine H3.out.keep (aH fun k h1 h2=>?_)
    simp only [lo,decide_eq_false_iff_not,Nat.not_lt] at h2 ⊢
    refine ⟨by omega, ?_⟩
    rw [key k (by omega),key2 k (by omega),b5.block k (by omega) (fun e=>by have:=LN.out k e;omega)]
    exact Below.heap_setCell _ _ _ _ (by show k ≠ W.heap.size + 1;omega)
   ·refine h5.keep (aH fun k h1 h2=>?_)
    simp only [lo,decide_eq_false_iff_not,Nat.not_lt] at h2 ⊢
    exact ⟨by omega,by rw [key k (by omega),key2 k (by omega)]⟩
  ·rw [TE.out]
   exact M6.out.na.heap LT.out (fun k hk=>key k (by omega))
 ·obtain ⟨nw,hnw⟩ : ∃ nw,nm = nw:=⟨_,rfl⟩
  obtain ⟨σ1,hσ⟩ : ∃ σ1,σ = σ1:=⟨_,rfl⟩
  have TE : Hid ((Fm.mk op nm ts fs).told b σ = (.mk op nm (aM b σ1 ts).1 (bM b (aM b σ1 ts).2 fs).1,(bM b (aM b σ1 ts).2 fs).2)):=by rw [← hσ];show _ = _;simp [Fm.told,dT,hop]
  have SL : Hid (σ1.length ≤ σ.length + 1):=by rw [← hσ];exact Nat.le_succ _
  have M2 : Hid (MidP g1 c1 gm cm σ1 W (.func (.func 70) #[] #[one g1,one c1]) (.slice va vn vc) op nm (.slice a N c) (.slice a2 N2 c2) W0):=by rw [← hσ];exact HM.out
  obtain ⟨σ2,hs2⟩ : ∃ σ2,σ2 = (aM b σ1 ts).2:=⟨_,rfl⟩
  have S2:=Lib.hid hs2
  rw [← hs2] at TE
  have hop2 : (op == 1) = false:=by simpa using hop
  clear NC hnw hσ hs2
  go_wp2_with (first
   | (
     go_at_call 114
     refine (EC.out _ _ _ SL.out M2.out).mono ?_
     rintro e w3 ⟨v3,rfl,h3,n3,b3⟩
     obtain ⟨fa,fc,rfl,-,-,-,-⟩:=At.sl_inv h3
     rw [← S2.out] at n3
     have M3:=Lib.hid (M2.out.next LN.out n3 b3)
     have H3:=Lib.hid h3
     clear h3 n3 b3 y0 y1 y2 y3 z0 z1 z2 z3 d0 d1 hW0
     obtain ⟨⟨y0,y1,y2,y3⟩,z0,z1,z2,z3⟩:=aL M3.out.r1
     have M4:=Lib.hid (M3.out.set LT.out 2 (.slice fa (aM b σ1 ts).1.length fc) _ _ _ rfl)
     obtain ⟨⟨q0,q1,q2,q3⟩,-,-,-,-⟩:=aL M4.out.r1
     obtain ⟨e0,e1,-,-⟩:=row2 M4.out.r0)
   | (
     go_at_call 69
     refine (FC.out _ _ _ _ _ SL.out S2.out M4.out).mono ?_
     rintro e w5 ⟨v5,rfl,h5,n5,b5⟩
     obtain ⟨ka,kc,rfl,-,-,-,-⟩:=At.sl_inv h5
     have M5:=Lib.hid (M4.out.next LN.out n5 b5)
     have H5:=Lib.hid (And.intro h5 b5)
     clear h5 n5 b5 y0 y1 y2 y3 z0 z1 z2 z3 q0 q1 q2 q3 e0 e1
     obtain ⟨⟨y0,y1,y2,y3⟩,z0,z1,z2,z3⟩:=aL M5.out.r1
     have M6:=Lib.hid (M5.out.set LT.out 3 (.slice ka (bM b σ2 fs).1.length kc) _ _ _ rfl)
     obtain ⟨⟨q0,q1,q2,q3⟩,-,-,-,-⟩:=aL M6.out.r1
     obtain ⟨⟨s0,s1,s2,s3⟩,x0,x1,x2,x3⟩:=aL M6.out.r2))
  obtain ⟨h5,b5⟩:=H5.out
  have g:=aC (o:=3) (u:=.slice ka (bM b σ2 fs).1.length kc) (aC (o:=2) (u:=.slice fa (aM b σ1 ts).1.length fc) (aC (o:=1) (u:=str nm) (aC (o:=0) (u:=.int .u8 op) M6.out.r2)))
  have key : ∀ k,k ≠ W.heap.size + 1 + 1 → ((((((w5.setCell ⟨W.heap.size + 1,3,none⟩ (.slice ka (bM b σ2 fs).1.length kc)).setCell ⟨W.heap.size + 1 + 1,0,none⟩ (.int .u8 op)).setCell ⟨W.heap.size + 1 + 1,1,none⟩ (str nm)).setCell ⟨W.heap.size + 1 + 1,2,none⟩ (.slice fa (aM b σ1 ts).1.length fc)).setCell ⟨W.heap.size + 1 + 1,3,none⟩ (.slice ka (bM b σ2 fs).1.length kc)).heap[k]?) = (w5.setCell ⟨W.heap.size + 1,3,none⟩ (.slice ka (bM b σ2 fs).1.length kc)).heap[k]?:=fun k hk=>by rw [Below.heap_setCell _ _ _ _ hk,Below.heap_setCell _ _ _ _ hk,Below.heap_setCell _ _ _ _ hk,Below.heap_setCell _ _ _ _ hk]
  have key2 : ∀ k,W.heap.size + 1 + 1 < k → (w5.setCell ⟨W.heap.size + 1,3,none⟩ (.slice ka (bM b σ2 fs).1.length kc)).heap[k]? = w5.heap[k]?:=fun k hk=>Below.heap_setCell _ _ _ _ (by show k ≠ W.heap.size + 1;omega)
  have lw:=(Array.getElem?_eq_some_iff.1 M2.out.r2).1
  have lw4:=(Array.getElem?_eq_some_iff.1 M4.out.r2).1
  have l34 : w3.heap.size ≤ (w3.setCell ⟨W.heap.size + 1,2,none⟩ (.slice fa (aM b σ1 ts).1.length fc)).heap.size:=by simp
  refine bodyPost_ret (jV rfl _ _ (W.heap.size + 1 + 1) _ _ _ _ (0,0) rfl g) rfl ?_
  refine ⟨.agg #[.int .u8 op,str nm,.slice fa (aM b σ1 ts).1.length fc,.slice ka (bM b σ2 fs).1.length kc],rfl, ?_, ?_,((((M6.out.bt.set (by omega) _ _).set (by omega) _ _).set (by omega) _ _).set (by omega) _ _)⟩
  ·rw [TE.out]
   refine ⟨_,_,_,_,_,_,rfl, ?_, ?_⟩
   ·refine H3.out.keep (aH fun k h1 h2=>?_)
    simp only [lo,decide_eq_false_iff_not,Nat.not_lt] at h2 ⊢
    refine ⟨by omega, ?_⟩
    rw [key k (by omega),key2 k (by omega),b5.block k (by omega) (fun e=>by have:=LN.out k e;omega)]
    exact Below.heap_setCell _ _ _ _ (by show k ≠ W.heap.size + 1;omega)
   ·refine h5.keep (aH fun k h1 h2=>?_)
    simp only [lo,decide_eq_false_iff_not,Nat.not_lt] at h2 ⊢
    exact ⟨by omega,by rw [key k (by omega),key2 k (by omega)]⟩
  ·rw [TE.out]
   exact M6.out.na.heap LT.out (fun k hk=>key k (by omega))
mutual
theorem zI : ∀ t : Fm,NP t
 | .mk op nm ts fs=>np_step op nm ts fs (xW fs)
theorem xW : ∀ ts : List Fm,∀ t ∈ ts,NP t
 | [],_,h=>by cases h
 | x :: xs,t,h=>by
  rcases List.mem_cons.1 h with e | e
  ·rw [e];exact zI x
  ·exact xW xs t e
end
end Go.Proofs.YtppfalbnhnpbnaaGreatDoor
