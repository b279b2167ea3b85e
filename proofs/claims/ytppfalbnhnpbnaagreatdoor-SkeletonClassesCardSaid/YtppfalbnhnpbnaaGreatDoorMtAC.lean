/- subst.mapTerm with copyTerm's function, subst.copyTerm: a copy of a term. Conditions: those of each statement. -/
import Derived.Test.YtppfalbnhnpbnaaGreatDoorRegUC
import Derived.Deep.RegionHeld3
set_option linter.unusedSimpArgs false
set_option linter.unusedVariables false
namespace Go.Proofs.YtppfalbnhnpbnaaGreatDoor
open Go Go.RowKit Ly
set_option maxRecDepth 10000
theorem mQ : (Tryz.prog.info? 38).map (fun i=>(i.zero,i.size,i.bytes)) = some (some (.agg #[.bool false,.string ⟨#[]⟩,.slice none 0 0]),3,48):=by kernel_rfl
def insV (o : Option Bs) : Value:=.tuple #[.agg #[.bool o.isSome,str (o.getD []),.slice none 0 0],.bool o.isSome]
theorem eO : ∀ ts : List Tm,ts.length ≤ aF ts
 | []=>Nat.zero_le _
 | .mk v n us :: ts=>by have:=eO ts;simp [aF,Tm.nodes];omega
theorem eH {T : Tm} : ∀ {ts : List Tm},T ∈ ts → T.nodes ≤ aF ts
 | [],h=>by cases h
 | x :: ts,h=>by
  rcases List.mem_cons.1 h with rfl | h
  ·simp [aF]
  ·have:=eH h;simp [aF];omega
theorem gB (g : Bs → Option Bs) : ∀ (ts : List Tm) {j : Nat} {T : Tm},ts[j]? = some T → (aO g ts)[j]? = some (T.swap g)
 | [],_,_,h=>by simp at h
 | x :: ts,0,T,h=>by simp at h;subst h;simp [aO]
 | x :: ts,j + 1,T,h=>by simp at h;simp [aO,gB g ts h]
theorem cR (g : Bs → Option Bs) : ∀ ts : List Tm,(aO g ts).length = ts.length
 | []=>rfl
 | x :: ts=>by simp [aO,cR g ts]
theorem gZ (l : List Tm) {j : Nat} {T : Tm} (h : l[j]? = some T) : bS (l.take (j + 1)) = bS (l.take j) ++ T.ds:=by
 have app : ∀ a b : List Tm,bS (a ++ b) = bS a ++ bS b:=fun a b=>by
  induction a with
  | nil=>rfl
  | cons x a ih=>simp [bS,ih]
 rw [List.take_add_one,h,app]
 simp [bS]
theorem wA (w : World) (x y z : Value) (t : TypeId) : ∀ j u,[x,y,z][j]? = some u → (w.alloc (.cells #[x,y,z] t)).cell? ((⟨w.heap.size,0,none⟩ : Addr).add j) = some u:=by
 intro j u h
 have g:=heap_alloc_new w (.cells #[x,y,z] t)
 have e : (⟨w.heap.size,0,none⟩ : Addr).add j = ⟨w.heap.size,j,none⟩:=by
  by_cases h0 : j = 0
  ·subst h0;rfl
  ·simp [Addr.add,h0]
 rw [e,bE g]
 simpa using h
theorem jU {b : Bool} {s : Bs} {a : Option Addr} {n c : Nat} : ∀ u ∈ [Value.bool b,str s,.slice a n c],u.oneCell' = true:=by
 intro u hu
 simp only [List.mem_cons,List.mem_nil_iff,or_false] at hu
 rcases hu with rfl | rfl | rfl <;> rfl
theorem res198 (tmps : Array Value) (w : World) (g : Nat) (a b c z : Value) (h3 : tmps.getD 2 undef = one g) (h4 : tmps.getD 3 undef = z) (hg : w.heap[g]? = some (.cells #[a,b,c] 38 (0,0))) :
  (results Tryz.f198 tmps).run Tryz.prog w = .ok (.tuple #[.agg #[a,b,c],z]) w:=by
 obtain ⟨fs,h1⟩:=u95
 have e3 : tmps[2]?.getD undef = .pointer (some ⟨g,0,none⟩):=by simpa using h3
 have e4 : tmps[3]?.getD undef = z:=by simpa using h4
 simp [results,Tryz.results198,e3,e4,asAddr,run_loadVar_row w g 38 38 #[a,b,c] (0,0) _ hg h1 rfl i95]
theorem pG {w W1 : World} {b : Nat} {x y z u v t : Value} {ty : TypeId} (hb : w.heap.size ≤ b) (B : Below w.heap.size w W1) (h : W1.heap[b]? = some (.cells #[x,y,z] ty (0,0))) :
  (((W1.setCell ⟨b,0,none⟩ u).setCell ⟨b,1,none⟩ v).setCell ⟨b,2,none⟩ t).heap[b]? = some (.cells #[u,v,t] ty (0,0)) ∧ Below w.heap.size w (((W1.setCell ⟨b,0,none⟩ u).setCell ⟨b,1,none⟩ v).setCell ⟨b,2,none⟩ t) ∧
   ∀ j,j ≠ b → (((W1.setCell ⟨b,0,none⟩ u).setCell ⟨b,1,none⟩ v).setCell ⟨b,2,none⟩ t).heap[j]? = W1.heap[j]? :=
 ⟨aC (o:=2) (u:=t) (aC (o:=1) (u:=v) (aC (o:=0) (u:=u) h)),((B.setCell hb _).setCell hb _).setCell hb _,fun j hj=>by rw [Below.heap_setCell _ _ _ _ hj,Below.heap_setCell _ _ _ _ hj,Below.heap_setCell _ _ _ _ hj]⟩
theorem copy1_c (s : Bs) (w : World) : Calls Tryz.prog 198 #[str s] w fun e w'=>e = .returned (insV none) ∧ Below w.heap.size w w':=by
 have r0:=heap_alloc_new w (.cells #[.bool false,str [],.slice none 0 0] 38)
 have B1 : Below w.heap.size w (w.alloc (.cells #[.bool false,str [],.slice none 0 0] 38)):=(Below.refl _ _).alloc (Nat.le_refl _) _
 have R0:=Lib.hid r0
 have HB:=Lib.hid B1
 clear r0 B1
 go_enter Tryz.func198,Tryz.ntmps198
 go_wp2
 exact bodyPost_ret (res198 _ _ w.heap.size _ _ _ _ rfl rfl R0.out) rfl ⟨rfl,HB.out⟩
def wW (t : Tm) : Prop:=∀ (W : World) (x : Value),dC W t x → True → t.nodes ≤ 100000 → Calls Tryz.prog 96 #[x,.func (.func 198) #[] #[]] W (RetH (t.swap (fun _=>none)) W)
set_option maxHeartbeats 16000000 in
theorem mt_step198 (v : Bool) (nm : Bs) (ts : List Tm) (ih : ∀ t ∈ ts,wW t) : wW (.mk v nm ts):=by
 intro W x hx0 hi hn
 obtain ⟨a,N,c,rfl,hx⟩ : ∃ a N c,x = .agg #[.bool v,str nm,.slice a N c] ∧ bG W ts (.slice a N c):=hx0
 have hl:=hx.len
 have nd : (Tm.mk v nm ts).nodes = 1 + aF ts:=by simp [Tm.nodes]
 rw [nd] at hn
 have N0 : N ≤ 100000:=by rw [hl.1];have:=eO ts;omega
 have N1 : N ≤ 9223372036854775807:=by omega
 have L2:=Lib.hid hl.1
 have HX:=Lib.hid hx
 have HI:=Lib.hid hi
 have HN:=Lib.hid hn
 have IH:=Lib.hid ih
 have CL : Hid (∀ W1,Below W.heap.size W W1 → Calls Tryz.prog 198 #[str nm] W1 fun e w'=>e = .returned (insV ((fun _=>none) nm)) ∧ Below W1.heap.size W1 w'):=fun W1 hb=>copy1_c nm W1
 obtain ⟨W0,hW0⟩ : ∃ W0,(W.alloc (.cells #[.bool v,str nm,.slice a N c] 38)).alloc (.cells #[.bool false,str [],.slice none 0 0] 38) = W0:=⟨_,rfl⟩
 have bw : Below W.heap.size W W0:=by rw [← hW0];exact ((Below.refl _ _).alloc (Nat.le_refl _) _).alloc (by simp) _
 have sz : W0.heap.size = W.heap.size + 1 + 1:=by rw [← hW0];simp
 have r0 : W0.heap[W.heap.size]? = some (.cells #[.bool v,str nm,.slice a N c] 38 (0,0)):=by rw [← hW0];exact aI _ (heap_alloc_new W _)
 have r1 : W0.heap[W.heap.size + 1]? = some (.cells #[.bool false,str [],.slice none 0 0] 38 (0,0)):=by
  rw [← hW0]
  have:=heap_alloc_new (W.alloc (.cells #[.bool v,str nm,.slice a N c] 38)) (.cells #[.bool false,str [],.slice none 0 0] 38)
  rwa [World.size_alloc] at this
 have SZ:=Lib.hid sz
 have R0:=Lib.hid r0
 have R1:=Lib.hid r1
 have BW:=Lib.hid bw
 obtain ⟨y0,y1,y2,-⟩:=row95' r0
 clear hl hx hn hi ih nd bw sz r0 r1
 go_enter Tryz.func96,Tryz.ntmps96
 cases v
 ·have z2 : ∀ o,(W0.alloc o).cell? ⟨W.heap.size,2,none⟩ = some (.slice a N c):=fun o=>(row95' (aI o R0.out)).2.2.1
  go_wp2
  obtain ⟨Wl,hWl⟩ : ∃ Wl,W0.alloc (.cells #[.bool false,str nm,.slice none 0 0] 38) = Wl:=⟨_,rfl⟩
  obtain ⟨R,hR⟩ : ∃ R,W0.heap.size = R:=⟨_,rfl⟩
  have rr : Wl.heap[R]? = some (.cells #[.bool false,str nm,.slice none 0 0] 38 (0,0)):=by rw [← hWl,← hR];exact heap_alloc_new _ _
  have bl : Below W.heap.size W Wl:=by rw [← hWl];exact BW.out.alloc (by have:=SZ.out;omega) _
  have q1 : Wl.heap[W.heap.size + 1]? = some (.cells #[.bool false,str [],.slice none 0 0] 38 (0,0)):=by rw [← hWl];exact aI _ R1.out
  have HR : Hid (W.heap.size + 1 < R):=by rw [← hR,SZ.out];exact Nat.lt_succ_self _
  rw [hWl,hR]
  clear hWl hR z2 CL SZ R0 R1 BW y0 y1 y2 hW0
  have A0 : Hid (ApR Wl R 38 38 3 [.bool false,str nm] [] 0 [] (.slice none 0 0) Wl):=ApR.new rr
  have BL:=Lib.hid bl
  have Q1:=Lib.hid q1
  clear rr bl q1
  go_loopw [30] (fun i wr=>∃ j : Nat,j ≤ N ∧ i = .int .i64 j ∧ Hid (∃ u,ApR Wl R 38 38 3 [.bool false,str nm] [] j (bS ((aO (fun _=>none) ts).take j)) u wr)) (fun i _=>N - (intOf i).toNat)
  case atStart=>exact ⟨0,Nat.zero_le _,rfl,_,A0.out⟩
  case round =>
   obtain ⟨j,hj,rfl,hs⟩:=hrel
   obtain ⟨u,hA⟩:=hs.out
   clear hs A0
   have BA : Hid (Below W.heap.size W wr):=BL.out.trans (hA.bw.below (by have:=HR.out;omega) BL.out.size)
   by_cases hlt : j < N
   ·obtain ⟨T,hT⟩:=aT (l:=ts) (j:=j) (by rw [← L2.out];exact hlt)
    obtain ⟨bb,off,rfl,hc⟩:=HX.out.get (aX hT)
    obtain ⟨x0,x1,x2,hx⟩:=hc j _ hT
    have hK:=aA BA.out
    have c0:=hK _ _ hx.c0;have c1:=hK _ _ hx.c1;have c2:=hK _ _ hx.c2
    have HT:=Lib.hid (List.mem_of_getElem? hT)
    have TW : Hid (bS ((aO (fun _=>none) ts).take (j + 1)) = bS ((aO (fun _=>none) ts).take j) ++ (T.swap (fun _=>none)).ds):=gZ _ (gB (fun _=>none) ts hT)
    have IC : Hid (∀ w',Below W.heap.size W w' → Calls Tryz.prog 96 #[.agg #[.bool T.v,str T.name,.slice x0 x1 x2],.func (.func 198) #[] #[]] w' (RetH (T.swap (fun _=>none)) w')):=fun w' hb=>IH.out T HT.out w' _ ⟨_,_,_,rfl,hx.at_.keep (aA hb)⟩ trivial (by have:=eH HT.out;have:=HN.out;omega)
    clear hc hx hT hK
    obtain ⟨ua,uc,rfl⟩:=hA.form
    have AA:=Lib.hid hA
    have RL : Hid (R < wr.heap.size):=(Array.getElem?_eq_some_iff.1 hA.r).1
    clear hA
    obtain ⟨i0,hi0,hz0,hs0,hb0⟩:=info_parts mQ
    go_upto_region 9 with fail
    refine wp_region_held_drew (S:=fun w'=>w'.heap[wr.heap.size]? = some (.cells #[.bool T.v,str T.name,.slice x0 x1 x2] 38 (0,0))) (by kernel_rfl) (heap_alloc_new wr _) (fun hHeld=>?_)
    refine wpAnyH_take (i:=0) (v:=?_) rfl (by kernel_rfl) (by kernel_rfl) (by kernel_rfl) (fun _ _ _ h=>h) (Or.inl ⟨by rfl, ?_⟩) (by assumption) ?_
    rotate_left
    ·(intro w0 hSw;go_simp;(try with_reducible rfl))
    try simp only [Act.put,List.getElem_toArray,List.getElem_cons_succ,List.getElem_cons_zero,List.setIfInBounds_toArray,List.set_cons_zero,List.set_cons_succ]
    refine wpAnyH_take (i:=2) (v:=?_) rfl (by kernel_rfl) (by kernel_rfl) (by kernel_rfl) (fun _ _ _ h=>h) (Or.inl ⟨by rfl, ?_⟩) (by assumption) ?_
    rotate_left
    ·(intro w0 hSw;obtain ⟨z0,z1,z2,-⟩:=row95' hSw;go_simp;(try with_reducible rfl))
    try simp only [Act.put,List.getElem_toArray,List.getElem_cons_succ,List.getElem_cons_zero,List.setIfInBounds_toArray,List.set_cons_zero,List.set_cons_succ]
    refine wpAnyH_take (i:=3) (v:=?_) rfl (by kernel_rfl) (by kernel_rfl) (by kernel_rfl) (fun _ _ _ h=>h) (Or.inl ⟨by rfl, ?_⟩) (by assumption) ?_
    rotate_left
    ·(intro w0 hSw;go_simp;(try with_reducible rfl))
    try simp only [Act.put,List.getElem_toArray,List.getElem_cons_succ,List.getElem_cons_zero,List.setIfInBounds_toArray,List.set_cons_zero,List.set_cons_succ]
    refine iF (i:=1) (T:=fun w'=>w'.heap[R]? = some (.cells #[.bool false,str nm,.slice ua j uc] 38 (0,0))) (v:=?_) rfl (by kernel_rfl) (by kernel_rfl) (by kernel_rfl) (fun _ _ _ h=>h) (Or.inl ⟨by rfl, ?_⟩) (by assumption) (aI _ AA.out.r) ?_
    rotate_left
    ·(intro w0 hSw;obtain ⟨-,-,z2,-⟩:=row95' hSw.2;go_simp;(try with_reducible rfl))
    try simp only [Act.put,List.getElem_toArray,List.getElem_cons_succ,List.getElem_cons_zero,List.setIfInBounds_toArray,List.set_cons_zero,List.set_cons_succ]
    refine fB (j:=4) (by kernel_rfl) (by kernel_rfl) rfl (fun K hK=>?_)
    go_simp
    go_at_call 96
    refine (IC.out _ (BA.out.trans ((Below.refl _ _).alloc BA.out.size _)).drew).mono ?_
    rintro e w3 ⟨v3,rfl,⟨fa,fn,fc,rfl,h3⟩,b3⟩
    have hS3:=(b3.block wr.heap.size (by simp)).trans hHeld
    have hT3:=(b3.block R (by have:=RL.out;simp;omega)).trans (aI _ AA.out.r)
    have HB3 : Hid (Below (wr.alloc (.cells #[.bool T.v,str T.name,.slice x0 x1 x2] 38)).drew.heap.size (wr.alloc (.cells #[.bool T.v,str T.name,.slice x0 x1 x2] 38)).drew w3):=b3
    have H3 : Hid (bG (hide (lo (wr.alloc (.cells #[.bool T.v,str T.name,.slice x0 x1 x2] 38)).drew) w3) (T.swap (fun _=>none)).args (.slice fa fn fc)):=h3
    clear h3 b3 hHeld IC
    go_simp
    refine hK.out _ _ hS3 hT3 (fun hHeld hHeldT=>?_)
    clear hK K hS3 hT3
    try simp only [Act.put,List.getElem_toArray,List.getElem_cons_succ,List.getElem_cons_zero,List.setIfInBounds_toArray,List.set_cons_zero,List.set_cons_succ]
    refine fB (j:=5) (by kernel_rfl) (by kernel_rfl) rfl (fun K hK=>?_)
    go_simp
    obtain ⟨xs,ow,ob,or5,fin⟩:=AA.out.step (tb:=38) ((Below.refl _ _).alloc (Nat.le_refl _) _).drew HB3.out (fM H3.out)
    have OW:=Lib.hid ow
    have OB:=Lib.hid ob
    have FIN:=Lib.hid fin
    clear ow fin ob
    have hS4:=aI (.cells #[.bool (T.swap (fun _=>none)).v,str (T.swap (fun _=>none)).name,.slice fa fn fc] 38) hHeld
    refine hK.out _ _ hS4 or5 (fun hHeld2 hHeldT2=>?_)
    clear hK K hS4 or5 hHeld hHeldT
    try simp only [Act.put,List.getElem_toArray,List.getElem_cons_succ,List.getElem_cons_zero,List.setIfInBounds_toArray,List.set_cons_zero,List.set_cons_succ]
    refine jE (j:=6) (by kernel_rfl) (by kernel_rfl) rfl (fun K hK=>?_)
    refine bT rfl _ _ 36 rfl Wl.heap.size 38 i0 (.agg #[.bool false,.string ⟨#[]⟩,.slice none 0 0]) 3 48 Tryz.underlying36 hi0 hz0 hs0 hb0 rfl (by decide) _ j xs (by rfl) OW.out ⟨w3.heap.size,0,none⟩ 1 1 [.bool (T.swap (fun _=>none)).v,str (T.swap (fun _=>none)).name,.slice fa fn fc] (by rfl) rfl (wA _ _ _ _ _) jU (by unfold maxLen;omega) (by omega) OB.out ?_
    intro v5 w5 h5 hg5 hat5
    obtain ⟨r5,⟨va,vc,rfl⟩,A5⟩:=FIN.out v5 w5 h5 hg5 hat5
    have A6:=Lib.hid A5
    have R5:=Lib.hid r5
    have hS5:=(hg5.block wr.heap.size (by have:=HB3.out.size;simp at this;simp;omega) (fun e=>by have:=(fE AA.out.own _ e.symm).2;omega)).trans hHeld2
    clear h5 hg5 hat5 A5 r5 FIN OW
    refine hK.out _ _ hS5 (fun hHeld3=>?_)
    clear hK K hS5 hHeld2 hHeldT2
    try simp only [Act.put,List.getElem_toArray,List.getElem_cons_succ,List.getElem_cons_zero,List.setIfInBounds_toArray,List.set_cons_zero,List.set_cons_succ]
    refine wpAnyH_take (i:=7) (v:=?_) rfl (by kernel_rfl) (by kernel_rfl) (by kernel_rfl) (fun _ _ _ h=>h) (Or.inl ⟨by rfl, ?_⟩) (by assumption) ?_
    rotate_left
    ·(intro w0 hSw;go_simp;(try with_reducible rfl))
    try simp only [Act.put,List.getElem_toArray,List.getElem_cons_succ,List.getElem_cons_zero,List.setIfInBounds_toArray,List.set_cons_zero,List.set_cons_succ]
    refine wpAnyH_ready (rs:=[8]) (by kernel_rfl) (by simp) ?_
    refine AllReadyH.cons rfl (fun K hK=>?_) AllReadyH.nil
    obtain ⟨-,-,z2,-,-,f2⟩:=row95' R5.out
    go_simp
    have A7:=A6.out _ rfl
    have hS6:=(Below.heap_setCell w5 ⟨R,2,none⟩ (.slice va (j + 1) vc) wr.heap.size (by have:=RL.out;show wr.heap.size ≠ R;omega)).trans hHeld3
    refine hK.out _ _ hS6 (fun hHeld4=>?_)
    clear hK K hS6 hHeld3
    try simp only [Act.put,List.getElem_toArray,List.getElem_cons_succ,List.getElem_cons_zero,List.setIfInBounds_toArray,List.set_cons_zero,List.set_cons_succ]
    refine wpAnyH_done (by kernel_rfl) ?_ _
    go_wp2_with fail
    go_roundw
    case rel=>exact ⟨j + 1,by omega,by go_num,_,by rw [TW.out];exact A7⟩
    case measure=>simp [intOf];omega
   ·obtain ⟨ua,uc,rfl⟩:=hA.form
    have e : (aO (fun _=>none) ts).take j = aO (fun _=>none) ts:=List.take_of_length_le (by rw [cR,← L2.out];omega)
    have EJ : Hid (j = N):=by show j = N;omega
    rw [e] at hA
    obtain ⟨y0,y1,y2,-⟩:=row95' hA.r
    have q2 : wr.heap[W.heap.size + 1]? = some (.cells #[.bool false,str [],.slice none 0 0] 38 (0,0)):=(hA.bw.block _ (Array.getElem?_eq_some_iff.1 Q1.out).1 (by have:=HR.out;omega)).trans Q1.out
    obtain ⟨p0,p1,p2,z0,z1,z2⟩:=row95' q2
    have AA:=Lib.hid hA
    have Q2:=Lib.hid q2
    clear hA q2 e
    go_wp2_with fail
    obtain ⟨g1,g2,g3⟩:=pG (u:=.bool false) (v:=str nm) (t:=.slice ua j uc) (b:=W.heap.size + 1) (by omega) BA.out Q2.out
    refine bodyPost_ret (gJ rfl _ _ (W.heap.size + 1) _ _ _ (0,0) rfl g1) rfl ?_
    refine ⟨.agg #[.bool false,str nm,.slice ua j uc],rfl, ?_,g2⟩
    rw [show (Tm.mk false nm ts).swap (fun _=>none) = .mk false nm (aO (fun _=>none) ts) by simp [Tm.swap]]
    refine ⟨_,_,_,rfl, ?_⟩
    have:=AA.out.at
    have lj : j = (aO (fun _=>none) ts).length:=by rw [cR,← L2.out];exact EJ.out
    show At _ (.sl 3 (aO (fun _=>none) ts).length (bS (aO (fun _=>none) ts))) (.slice ua j uc)
    rw [← lj]
    refine At.keep (aH fun k h1 h2=>?_) _ _ this
    have hk : Wl.heap.size ≤ k:=by simpa [lo] using h2
    have:=HR.out
    have:=AA.out.lt
    exact ⟨by simp [lo];omega,g3 k (by omega)⟩
 ·cases ho : (fun _=>none) nm with
  | none =>
   rw [ho] at CL
   have CLN : Hid (∀ W1,Below W.heap.size W W1 → Calls Tryz.prog 198 #[str nm] W1 fun e w'=>e = .returned (.tuple #[.agg #[.bool false,str [],.slice none 0 0],.bool false]) ∧ Below W1.heap.size W1 w'):=CL
   clear CL
   have SN : Hid ((Tm.mk true nm ts).swap (fun _=>none) = .mk true nm (aO (fun _=>none) ts)):=by show _ = _;simp [Tm.swap,ho]
   clear ho
   have NX : Hid (∀ w2,Below W0.heap.size W0 w2 → ∀ o o',((w2.alloc o).alloc o').cell? ⟨W.heap.size,2,none⟩ = some (.slice a N c) ∧ (w2.alloc o).cell? ⟨W.heap.size,0,none⟩ = some (.bool true) ∧ (w2.alloc o).cell? ⟨W.heap.size,1,none⟩ = some (str nm)):=fun w2 hb o o'=>by
    have g:=(hb.block _ (by have:=SZ.out;omega)).trans R0.out
    exact ⟨(row95' (aI o' (aI o g))).2.2.1,(row95' (aI o g)).1,(row95' (aI o g)).2.1⟩
   go_wp2_with (go_at_call 198;refine (CLN.out _ BW.out).mono ?_;rintro e w2 ⟨rfl,b2⟩;have B2:=Lib.hid b2;have nx:=NX.out _ b2;obtain ⟨p0,p1,p2⟩ : (∀ o o',((w2.alloc o).alloc o').cell? ⟨W.heap.size,2,none⟩ = some (.slice a N c)) ∧ (∀ o,(w2.alloc o).cell? ⟨W.heap.size,0,none⟩ = some (.bool true)) ∧ (∀ o,(w2.alloc o).cell? ⟨W.heap.size,1,none⟩ = some (str nm)):=⟨fun o o'=>(nx o o').1,fun o=>(nx o o).2.1,fun o=>(nx o o).2.2⟩;clear b2 nx NX CLN y0 y1 y2)
   obtain ⟨Wl,hWl⟩ : ∃ Wl,(w2.alloc (.cells #[.bool false,str [],.slice none 0 0] 38)).alloc (.cells #[.bool true,str nm,.slice none 0 0] 38) = Wl:=⟨_,rfl⟩
   obtain ⟨R,hR⟩ : ∃ R,w2.heap.size + 1 = R:=⟨_,rfl⟩
   have rr : Wl.heap[R]? = some (.cells #[.bool true,str nm,.slice none 0 0] 38 (0,0)):=by
    rw [← hWl,← hR]
    have:=heap_alloc_new (w2.alloc (.cells #[.bool false,str [],.slice none 0 0] 38)) (.cells #[.bool true,str nm,.slice none 0 0] 38)
    rwa [World.size_alloc] at this
   have b4 : Below W0.heap.size W0 Wl:=by rw [← hWl];exact (B2.out.alloc B2.out.size _).alloc (by have:=B2.out.size;simp;omega) _
   have bl : Below W.heap.size W Wl:=BW.out.trans (b4.mono BW.out.size)
   have q1 : Wl.heap[W.heap.size + 1]? = some (.cells #[.bool false,str [],.slice none 0 0] 38 (0,0)):=(b4.block _ (by have:=SZ.out;omega)).trans R1.out
   have HR : Hid (W.heap.size + 1 < R):=by show _ < _;have:=B2.out.size;have:=SZ.out;omega
   rw [hWl,hR]
   clear hWl hR p0 p1 p2 b4 SZ R0 R1 BW B2 hW0
   have A0 : Hid (ApR Wl R 38 38 3 [.bool true,str nm] [] 0 [] (.slice none 0 0) Wl):=ApR.new rr
   have BL:=Lib.hid bl
   have Q1:=Lib.hid q1
   clear rr bl q1
   go_loopw [30] (fun i wr=>∃ j : Nat,j ≤ N ∧ i = .int .i64 j ∧ Hid (∃ u,ApR Wl R 38 38 3 [.bool true,str nm] [] j (bS ((aO (fun _=>none) ts).take j)) u wr)) (fun i _=>N - (intOf i).toNat)
   case atStart=>exact ⟨0,Nat.zero_le _,rfl,_,A0.out⟩
   case round =>
    obtain ⟨j,hj,rfl,hs⟩:=hrel
    obtain ⟨u,hA⟩:=hs.out
    clear hs A0
    have BA : Hid (Below W.heap.size W wr):=BL.out.trans (hA.bw.below (by have:=HR.out;omega) BL.out.size)
    by_cases hlt : j < N
    ·obtain ⟨T,hT⟩:=aT (l:=ts) (j:=j) (by rw [← L2.out];exact hlt)
     obtain ⟨bb,off,rfl,hc⟩:=HX.out.get (aX hT)
     obtain ⟨x0,x1,x2,hx⟩:=hc j _ hT
     have hK:=aA BA.out
     have c0:=hK _ _ hx.c0;have c1:=hK _ _ hx.c1;have c2:=hK _ _ hx.c2
     have HT:=Lib.hid (List.mem_of_getElem? hT)
     have TW : Hid (bS ((aO (fun _=>none) ts).take (j + 1)) = bS ((aO (fun _=>none) ts).take j) ++ (T.swap (fun _=>none)).ds):=gZ _ (gB (fun _=>none) ts hT)
     have IC : Hid (∀ w',Below W.heap.size W w' → Calls Tryz.prog 96 #[.agg #[.bool T.v,str T.name,.slice x0 x1 x2],.func (.func 198) #[] #[]] w' (RetH (T.swap (fun _=>none)) w')):=fun w' hb=>IH.out T HT.out w' _ ⟨_,_,_,rfl,hx.at_.keep (aA hb)⟩ trivial (by have:=eH HT.out;have:=HN.out;omega)
     clear hc hx hT hK
     obtain ⟨ua,uc,rfl⟩:=hA.form
     have AA:=Lib.hid hA
     have RL : Hid (R < wr.heap.size):=(Array.getElem?_eq_some_iff.1 hA.r).1
     clear hA
     obtain ⟨i0,hi0,hz0,hs0,hb0⟩:=info_parts mQ
     go_upto_region 9 with fail
     refine wp_region_held_drew (S:=fun w'=>w'.heap[wr.heap.size]? = some (.cells #[.bool T.v,str T.name,.slice x0 x1 x2] 38 (0,0))) (by kernel_rfl) (heap_alloc_new wr _) (fun hHeld=>?_)
     refine wpAnyH_take (i:=0) (v:=?_) rfl (by kernel_rfl) (by kernel_rfl) (by kernel_rfl) (fun _ _ _ h=>h) (Or.inl ⟨by rfl, ?_⟩) (by assumption) ?_
     rotate_left
     ·(intro w0 hSw;go_simp;(try with_reducible rfl))
     try simp only [Act.put,List.getElem_toArray,List.getElem_cons_succ,List.getElem_cons_zero,List.setIfInBounds_toArray,List.set_cons_zero,List.set_cons_succ]
     refine wpAnyH_take (i:=2) (v:=?_) rfl (by kernel_rfl) (by kernel_rfl) (by kernel_rfl) (fun _ _ _ h=>h) (Or.inl ⟨by rfl, ?_⟩) (by assumption) ?_
     rotate_left
     ·(intro w0 hSw;obtain ⟨z0,z1,z2,-⟩:=row95' hSw;go_simp;(try with_reducible rfl))
     try simp only [Act.put,List.getElem_toArray,List.getElem_cons_succ,List.getElem_cons_zero,List.setIfInBounds_toArray,List.set_cons_zero,List.set_cons_succ]
     refine wpAnyH_take (i:=3) (v:=?_) rfl (by kernel_rfl) (by kernel_rfl) (by kernel_rfl) (fun _ _ _ h=>h) (Or.inl ⟨by rfl, ?_⟩) (by assumption) ?_
     rotate_left
     ·(intro w0 hSw;go_simp;(try with_reducible rfl))
     try simp only [Act.put,List.getElem_toArray,List.getElem_cons_succ,List.getElem_cons_zero,List.setIfInBounds_toArray,List.set_cons_zero,List.set_cons_succ]
     refine iF (i:=1) (T:=fun w'=>w'.heap[R]? = some (.cells #[.bool true,str nm,.slice ua j uc] 38 (0,0))) (v:=?_) rfl (by kernel_rfl) (by kernel_rfl) (by kernel_rfl) (fun _ _ _ h=>h) (Or.inl ⟨by rfl, ?_⟩) (by assumption) (aI _ AA.out.r) ?_
     rotate_left
     ·(intro w0 hSw;obtain ⟨-,-,z2,-⟩:=row95' hSw.2;go_simp;(try with_reducible rfl))
     try simp only [Act.put,List.getElem_toArray,List.getElem_cons_succ,List.getElem_cons_zero,List.setIfInBounds_toArray,List.set_cons_zero,List.set_cons_succ]
     refine fB (j:=4) (by kernel_rfl) (by kernel_rfl) rfl (fun K hK=>?_)
     go_simp
     go_at_call 96
     refine (IC.out _ (BA.out.trans ((Below.refl _ _).alloc BA.out.size _)).drew).mono ?_
     rintro e w3 ⟨v3,rfl,⟨fa,fn,fc,rfl,h3⟩,b3⟩
     have hS3:=(b3.block wr.heap.size (by simp)).trans hHeld
     have hT3:=(b3.block R (by have:=RL.out;simp;omega)).trans (aI _ AA.out.r)
     have HB3 : Hid (Below (wr.alloc (.cells #[.bool T.v,str T.name,.slice x0 x1 x2] 38)).drew.heap.size (wr.alloc (.cells #[.bool T.v,str T.name,.slice x0 x1 x2] 38)).drew w3):=b3
     have H3 : Hid (bG (hide (lo (wr.alloc (.cells #[.bool T.v,str T.name,.slice x0 x1 x2] 38)).drew) w3) (T.swap (fun _=>none)).args (.slice fa fn fc)):=h3
     clear h3 b3 hHeld IC
     go_simp
     refine hK.out _ _ hS3 hT3 (fun hHeld hHeldT=>?_)
     clear hK K hS3 hT3
     try simp only [Act.put,List.getElem_toArray,List.getElem_cons_succ,List.getElem_cons_zero,List.setIfInBounds_toArray,List.set_cons_zero,List.set_cons_succ]
     refine fB (j:=5) (by kernel_rfl) (by kernel_rfl) rfl (fun K hK=>?_)
     go_simp
     obtain ⟨xs,ow,ob,or5,fin⟩:=AA.out.step (tb:=38) ((Below.refl _ _).alloc (Nat.le_refl _) _).drew HB3.out (fM H3.out)
     have OW:=Lib.hid ow
     have OB:=Lib.hid ob
     have FIN:=Lib.hid fin
     clear ow fin ob
     have hS4:=aI (.cells #[.bool (T.swap (fun _=>none)).v,str (T.swap (fun _=>none)).name,.slice fa fn fc] 38) hHeld
     refine hK.out _ _ hS4 or5 (fun hHeld2 hHeldT2=>?_)
     clear hK K hS4 or5 hHeld hHeldT
     try simp only [Act.put,List.getElem_toArray,List.getElem_cons_succ,List.getElem_cons_zero,List.setIfInBounds_toArray,List.set_cons_zero,List.set_cons_succ]
     refine jE (j:=6) (by kernel_rfl) (by kernel_rfl) rfl (fun K hK=>?_)
     refine bT rfl _ _ 36 rfl Wl.heap.size 38 i0 (.agg #[.bool false,.string ⟨#[]⟩,.slice none 0 0]) 3 48 Tryz.underlying36 hi0 hz0 hs0 hb0 rfl (by decide) _ j xs (by rfl) OW.out ⟨w3.heap.size,0,none⟩ 1 1 [.bool (T.swap (fun _=>none)).v,str (T.swap (fun _=>none)).name,.slice fa fn fc] (by rfl) rfl (wA _ _ _ _ _) jU (by unfold maxLen;omega) (by omega) OB.out ?_
     intro v5 w5 h5 hg5 hat5
     obtain ⟨r5,⟨va,vc,rfl⟩,A5⟩:=FIN.out v5 w5 h5 hg5 hat5
     have A6:=Lib.hid A5
     have R5:=Lib.hid r5
     have hS5:=(hg5.block wr.heap.size (by have:=HB3.out.size;simp at this;simp;omega) (fun e=>by have:=(fE AA.out.own _ e.symm).2;omega)).trans hHeld2
     clear h5 hg5 hat5 A5 r5 FIN OW
     refine hK.out _ _ hS5 (fun hHeld3=>?_)
     clear hK K hS5 hHeld2 hHeldT2
     try simp only [Act.put,List.getElem_toArray,List.getElem_cons_succ,List.getElem_cons_zero,List.setIfInBounds_toArray,List.set_cons_zero,List.set_cons_succ]
     refine wpAnyH_take (i:=7) (v:=?_) rfl (by kernel_rfl) (by kernel_rfl) (by kernel_rfl) (fun _ _ _ h=>h) (Or.inl ⟨by rfl, ?_⟩) (by assumption) ?_
     rotate_left
     ·(intro w0 hSw;go_simp;(try with_reducible rfl))
     try simp only [Act.put,List.getElem_toArray,List.getElem_cons_succ,List.getElem_cons_zero,List.setIfInBounds_toArray,List.set_cons_zero,List.set_cons_succ]
     refine wpAnyH_ready (rs:=[8]) (by kernel_rfl) (by simp) ?_
     refine AllReadyH.cons rfl (fun K hK=>?_) AllReadyH.nil
     obtain ⟨-,-,z2,-,-,f2⟩:=row95' R5.out
     go_simp
     have A7:=A6.out _ rfl
     have hS6:=(Below.heap_setCell w5 ⟨R,2,none⟩ (.slice va (j + 1) vc) wr.heap.size (by have:=RL.out;show wr.heap.size ≠ R;omega)).trans hHeld3
     refine hK.out _ _ hS6 (fun hHeld4=>?_)
     clear hK K hS6 hHeld3
     try simp only [Act.put,List.getElem_toArray,List.getElem_cons_succ,List.getElem_cons_zero,List.setIfInBounds_toArray,List.set_cons_zero,List.set_cons_succ]
     refine wpAnyH_done (by kernel_rfl) ?_ _
     go_wp2_with fail
     go_roundw
     case rel=>exact ⟨j + 1,by omega,by go_num,_,by rw [TW.out];exact A7⟩
     case measure=>simp [intOf];omega
    ·obtain ⟨ua,uc,rfl⟩:=hA.form
     have e : (aO (fun _=>none) ts).take j = aO (fun _=>none) ts:=List.take_of_length_le (by rw [cR,← L2.out];omega)
     have EJ : Hid (j = N):=by show j = N;omega
     rw [e] at hA
     obtain ⟨y0,y1,y2,-⟩:=row95' hA.r
     have q2 : wr.heap[W.heap.size + 1]? = some (.cells #[.bool false,str [],.slice none 0 0] 38 (0,0)):=(hA.bw.block _ (Array.getElem?_eq_some_iff.1 Q1.out).1 (by have:=HR.out;omega)).trans Q1.out
     obtain ⟨p0,p1,p2,z0,z1,z2⟩:=row95' q2
     have AA:=Lib.hid hA
     have Q2:=Lib.hid q2
     clear hA q2 e
     go_wp2_with fail
     obtain ⟨g1,g2,g3⟩:=pG (u:=.bool true) (v:=str nm) (t:=.slice ua j uc) (b:=W.heap.size + 1) (by omega) BA.out Q2.out
     refine bodyPost_ret (gJ rfl _ _ (W.heap.size + 1) _ _ _ (0,0) rfl g1) rfl ?_
     refine ⟨.agg #[.bool true,str nm,.slice ua j uc],rfl, ?_,g2⟩
     rw [SN.out]
     refine ⟨_,_,_,rfl, ?_⟩
     have:=AA.out.at
     have lj : j = (aO (fun _=>none) ts).length:=by rw [cR,← L2.out];exact EJ.out
     show At _ (.sl 3 (aO (fun _=>none) ts).length (bS (aO (fun _=>none) ts))) (.slice ua j uc)
     rw [← lj]
     refine At.keep (aH fun k h1 h2=>?_) _ _ this
     have hk : Wl.heap.size ≤ k:=by simpa [lo] using h2
     have:=HR.out
     have:=AA.out.lt
     exact ⟨by simp [lo];omega,g3 k (by omega)⟩
  | some m =>
   cases ho
mutual
theorem tH : ∀ t : Tm,wW t
 | .mk v nm ts=>mt_step198 v nm ts (rH ts)
theorem rH : ∀ ts : List Tm,∀ t ∈ ts,wW t
 | [],_,h=>by cases h
 | x :: xs,t,h=>by
  rcases List.mem_cons.1 h with e | e
  ·rw [e];exact tH x
  ·exact rH xs t e
end
mutual
theorem tY : ∀ t : Tm,t.swap (fun _=>none) = t
 | .mk v n ts=>by cases v <;> simp [Tm.swap,oB ts]
theorem oB : ∀ ts : List Tm,aO (fun _=>none) ts = ts
 | []=>rfl
 | t :: ts=>by simp [aO,tY t,oB ts]
end
end Go.Proofs.YtppfalbnhnpbnaaGreatDoor
