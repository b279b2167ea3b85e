/- subst.Normal at a right formula: its normal form, in memory of its own. Conditions: the tables lie as laid. -/
import Derived.Test.YtppfalbnhnpbnaaGreatDoorNrBC
import Derived.Test.YtppfalbnhnpbnaaGreatDoorNmCC
import Derived.Test.YtppfalbnhnpbnaaGreatDoorRightC
import Derived.RangeFuncCalls
import Derived.Test.YtppfalbnhnpbnaaGreatDoorSkVC
import Derived.Test.YtppfalbnhnpbnaaGreatDoorNtCC
set_option linter.unusedSimpArgs false
set_option linter.unusedVariables false
namespace Go.Proofs.YtppfalbnhnpbnaaGreatDoor
open Go Go.RowKit Ly
set_option maxRecDepth 10000
mutual
theorem zJ (M : Nat) (free : List Bs) : ∀ f : Fm,NRM M free f
 | .mk op nm ts fs=>nr_step M free op nm ts fs (xX M free fs)
theorem xX (M : Nat) (free : List Bs) : ∀ fs : List Fm,∀ f ∈ fs,NRM M free f
 | [],_,h=>by cases h
 | x :: xs,f,h=>by
  rcases List.mem_cons.1 h with e | e
  ·rw [e];exact zJ M free x
  ·exact xX M free xs f e
end
def yN (r : Fm) (w : World) (e : Ending) (w' : World) : Prop:=∃ a n c b m d,e = .returned (.tuple #[.agg #[.int .u8 r.op,str r.name,.slice a n c,.slice b m d],.int .i64 0]) ∧ bG (hide (lo w) w') r.args (.slice a n c) ∧ aN (hide (lo w) w') r.sub (.slice b m d) ∧ Below w.heap.size w w'
theorem res26 (tmps : Array Value) (w : World) (g : Nat) (a b c d z : Value) (h3 : tmps.getD 2 undef = one g) (h4 : tmps.getD 3 undef = z) (hg : w.heap[g]? = some (.cells #[a,b,c,d] 40 (0,0))) :
  (results Tryz.f26 tmps).run Tryz.prog w = .ok (.tuple #[.agg #[a,b,c,d],z]) w:=by
 obtain ⟨fs,h1⟩:=u25
 have e3 : tmps[2]?.getD undef = .pointer (some ⟨g,0,none⟩):=by simpa using h3
 have e4 : tmps[3]?.getD undef = z:=by simpa using h4
 simp [results,Tryz.results26,e3,e4,asAddr,run_loadVar_row w g 40 40 #[a,b,c,d] (0,0) _ hg h1 rfl i25]
set_option maxHeartbeats 8000000 in
theorem vE (f : Fm) (x : Value) (W : World) (hr : cU W) (hp : cK W) (hx0 : aV W f x) (hf : f.right = true) : Calls Tryz.prog 26 #[x] W (yN f.normal W):=by
 obtain ⟨a,n,c,b,m,d,rfl,hx,hx'⟩:=hx0
 have RC : Hid (∀ W',Below W.heap.size W W' → Calls Tryz.prog 16 #[.agg #[.int .u8 f.op,str f.name,.slice a n c,.slice b m d]] W' fun e w'=>e = .returned (.bool true) ∧ Below W'.heap.size W' w'):=fun W' hb=>sG f _ W' (hr.keep (aA hb)) ⟨_,_,_,_,_,_,rfl,hx.keep (aA hb),hx'.keep (aA hb)⟩ hf
 simp only [Fm.right,Bool.and_eq_true,decide_eq_true_eq] at hf
 have OK:=Fm.okNames_of f hf.1.1
 have NC : Hid (∀ W' mn M,Below W.heap.size W W' → cQ W' M mn (f.free []) → Calls Tryz.prog 52 #[.agg #[.int .u8 f.op,str f.name,.slice a n c,.slice b m d],.map (some M),.slice none 0 0] W' (RetF f.normal W')):=fun W' mn M hb hs =>
  zJ M (f.free []) f [] none 0 0 mn W' _ ⟨_,_,_,_,_,_,rfl,hx.keep (aA hb),hx'.keep (aA hb)⟩ hs (At.sl_nil (Nat.zero_le _)) (.inl ⟨rfl,rfl,rfl⟩) (hp.below hb) OK (fun p hp=>by cases hp) (by omega) (by simp;omega) (by have:=Fm.free_len f [];omega)
 have SC : Hid (∀ W' cf,Below W.heap.size W W' → W'.heap[cf]? = some (.cells #[.int .u8 f.op,str f.name,.slice a n c,.slice b m d] 40 (0,0)) → Calls Tryz.prog 53 #[.func (.func 100) #[] #[one cf]] W' fun e w'=>∃ M,e = .returned (.map (some M)) ∧ cQ w' M (f.free []).length (f.free []) ∧ Below W'.heap.size W' w'):=fun W' cf hb hc =>
  (set_c f _ _ _ _ cf W' hc ⟨_,_,_,_,_,_,rfl,hx.keep (aA hb),hx'.keep (aA hb)⟩ OK (by omega) (by have:=Fm.free_len f [];omega) (Fm.free_ok f [] OK)).mono fun e w' h=>⟨_,h⟩
 obtain ⟨W3,hW3⟩ : ∃ W3,(W.alloc (.cells #[.int .u8 f.op,str f.name,.slice a n c,.slice b m d] 40)).alloc (.cells #[.int .u8 0,str [],.slice none 0 0,.slice none 0 0] 40) = W3:=⟨_,rfl⟩
 have bw : Below W.heap.size W W3:=by rw [← hW3];exact ((Below.refl _ _).alloc (Nat.le_refl _) _).alloc (by simp) _
 have r0 : W3.heap[W.heap.size]? = some (.cells #[.int .u8 f.op,str f.name,.slice a n c,.slice b m d] 40 (0,0)):=by rw [← hW3];exact aI _ (heap_alloc_new W _)
 have r1 : W3.heap[W.heap.size + 1]? = some (.cells #[.int .u8 0,str [],.slice none 0 0,.slice none 0 0] 40 (0,0)):=by
  rw [← hW3]
  have:=heap_alloc_new (W.alloc (.cells #[.int .u8 f.op,str f.name,.slice a n c,.slice b m d] 40)) (.cells #[.int .u8 0,str [],.slice none 0 0,.slice none 0 0] 40)
  rwa [World.size_alloc] at this
 have BW:=Lib.hid bw
 have R0:=Lib.hid r0
 have R1:=Lib.hid r1
 obtain ⟨⟨y0,y1,y2,y3⟩,-⟩:=aL r0
 clear hx hx' hf hr hp bw r0 r1 OK
 go_enter Tryz.func26,Tryz.ntmps26
 go_wp2_with (go_at_call 16;refine (RC.out _ BW.out).mono ?_;rintro e w4 ⟨rfl,b4⟩;have B4:=Lib.hid b4;clear b4 RC y0 y1 y2 y3)
 have G0 : Hid (w4.heap[W.heap.size]? = some (.cells #[.int .u8 f.op,str f.name,.slice a n c,.slice b m d] 40 (0,0))):=(B4.out.block _ (Array.getElem?_eq_some_iff.1 R0.out).1).trans R0.out
 have G1 : Hid (w4.heap[W.heap.size + 1]? = some (.cells #[.int .u8 0,str [],.slice none 0 0,.slice none 0 0] 40 (0,0))):=(B4.out.block _ (Array.getElem?_eq_some_iff.1 R1.out).1).trans R1.out
 have BA : Hid (Below W.heap.size W w4):=BW.out.trans (B4.out.mono BW.out.size)
 clear B4 R0 R1 BW
 refine dG (q:=6) (S:=fun w'=>w'.heap[W.heap.size]? = some (.cells #[.int .u8 f.op,str f.name,.slice a n c,.slice b m d] 40 (0,0))) (by kernel_rfl) G0.out (fun hHeld=>?_)
 refine aJ (i:=0) (v:=?_) rfl (by kernel_rfl) (by kernel_rfl) (by kernel_rfl) (by kernel_rfl) (fun _ _ _ h=>h) (Or.inl ⟨by rfl, ?_⟩) (by assumption) ?_
 rotate_left
 ·(intro w0 hSw;obtain ⟨⟨z0,z1,z2,z3⟩,-⟩:=aL hSw;go_simp;(try with_reducible rfl))
 try simp only [Act.put,List.getElem_toArray,List.getElem_cons_succ,List.getElem_cons_zero,List.setIfInBounds_toArray,List.set_cons_zero,List.set_cons_succ]
 refine aJ (i:=1) (v:=?_) rfl (by kernel_rfl) (by kernel_rfl) (by kernel_rfl) (by kernel_rfl) (fun _ _ _ h=>h) (Or.inl ⟨by rfl, ?_⟩) (by assumption) ?_
 rotate_left
 ·(intro w0 hSw;obtain ⟨⟨z0,z1,z2,z3⟩,-⟩:=aL hSw;go_simp;(try with_reducible rfl))
 try simp only [Act.put,List.getElem_toArray,List.getElem_cons_succ,List.getElem_cons_zero,List.setIfInBounds_toArray,List.set_cons_zero,List.set_cons_succ]
 refine bQ (j:=2) (by kernel_rfl) (by kernel_rfl) rfl (fun K hK=>?_)
 go_simp
 go_at_call 54
 refine (freeNames_c _ _ _ _ _).mono ?_
 rintro e w5 ⟨rfl,rfl⟩
 go_simp
 refine hK.out _ _ (aI _ hHeld) (fun hHeld2=>?_)
 clear hK K hHeld
 try simp only [Act.put,List.getElem_toArray,List.getElem_cons_succ,List.getElem_cons_zero,List.setIfInBounds_toArray,List.set_cons_zero,List.set_cons_succ]
 refine bQ (j:=3) (by kernel_rfl) (by kernel_rfl) rfl (fun K hK=>?_)
 go_simp
 go_at_call 53
 refine (SC.out _ w4.heap.size (BA.out.drew.alloc BA.out.size _) (heap_alloc_new w4.drew _)).mono ?_
 rintro e w6 ⟨M6,rfl,s6,b6⟩
 have HS:=Lib.hid s6
 have B6 : Hid (Below w4.heap.size w4 w6):=aG ((Below.refl _ _).drew.alloc (Nat.le_refl _) _) b6
 have hS6:=(b6.block W.heap.size (by have:=(Array.getElem?_eq_some_iff.1 G0.out).1;simp;omega)).trans hHeld2
 clear s6 b6 SC
 go_simp
 refine hK.out _ _ hS6 (fun hHeld3=>?_)
 clear hK K hHeld2 hS6
 try simp only [Act.put,List.getElem_toArray,List.getElem_cons_succ,List.getElem_cons_zero,List.setIfInBounds_toArray,List.set_cons_zero,List.set_cons_succ]
 refine bQ (j:=4) (by kernel_rfl) (by kernel_rfl) rfl (fun K hK=>?_)
 go_simp
 go_at_call 52
 refine (NC.out w6 (f.free []).length M6 (BA.out.trans (B6.out.mono BA.out.size)) HS.out).mono ?_
 rintro e w7 ⟨ga,gn,gc,gb,gm,gd,rfl,h3,h4,b7⟩
 have H3:=Lib.hid h3
 have H4:=Lib.hid h4
 have B7 : Hid (Below w4.heap.size w4 w7):=B6.out.trans (b7.mono B6.out.size)
 have hS7:=(b7.block W.heap.size (by have:=(Array.getElem?_eq_some_iff.1 hHeld3).1;omega)).trans hHeld3
 clear h3 h4 b7 NC
 go_simp
 refine hK.out _ _ hS7 (fun hHeld4=>?_)
 clear hK K hHeld3 hS7
 try simp only [Act.put,List.getElem_toArray,List.getElem_cons_succ,List.getElem_cons_zero,List.setIfInBounds_toArray,List.set_cons_zero,List.set_cons_succ]
 refine bQ (j:=5) (by kernel_rfl) (by kernel_rfl) rfl (fun K hK=>?_)
 have Q1 : Hid (w7.heap[W.heap.size + 1]? = some (.cells #[.int .u8 0,str [],.slice none 0 0,.slice none 0 0] 40 (0,0))):=(B7.out.block _ (Array.getElem?_eq_some_iff.1 G1.out).1).trans G1.out
 obtain ⟨⟨p0,p1,p2,p3⟩,f0,f1,f2,f3⟩:=aL Q1.out
 go_simp
 have BB : Below W.heap.size W w7:=BA.out.trans (B7.out.mono BA.out.size)
 obtain ⟨g1,g2,g3⟩:=vR (x':=.int .u8 f.normal.op) (y':=str f.normal.name) (z':=.slice ga gn gc) (t':=.slice gb gm gd) (b:=W.heap.size + 1) (by omega) BB Q1.out
 have J1:=Lib.hid g1
 have J2:=Lib.hid g2
 have J3:=Lib.hid g3
 refine hK.out _ _ ((g3 _ (by omega)).trans hHeld4) (fun hHeld5=>?_)
 clear hK K hHeld4 g1 g2 g3 BB p0 p1 p2 p3 f0 f1 f2 f3
 try simp only [Act.put,List.getElem_toArray,List.getElem_cons_succ,List.getElem_cons_zero,List.setIfInBounds_toArray,List.set_cons_zero,List.set_cons_succ]
 refine dF (by kernel_rfl) (by kernel_rfl) rfl (fun K hK=>?_)
 go_simp
 refine hK.out _ _ ?_
 clear hK K hHeld5
 go_wp2_with fail
 refine bodyPost_ret (res26 _ _ (W.heap.size + 1) _ _ _ _ _ rfl rfl J1.out) rfl ?_
 refine ⟨ga,gn,gc,gb,gm,gd,rfl,H3.out.keep ?_,H4.out.keep ?_,J2.out⟩
 ·refine aH fun k h1 h2=>?_
  have h5 : w6.heap.size ≤ k:=by simpa [lo] using h2
  have:=B6.out.size
  have:=(Array.getElem?_eq_some_iff.1 G1.out).1
  exact ⟨by simp [lo];omega,J3.out k (by omega)⟩
 ·refine aH fun k h1 h2=>?_
  have h5 : w6.heap.size ≤ k:=by simpa [lo] using h2
  have:=B6.out.size
  have:=(Array.getElem?_eq_some_iff.1 G1.out).1
  exact ⟨by simp [lo];omega,J3.out k (by omega)⟩
end Go.Proofs.YtppfalbnhnpbnaaGreatDoor
namespace Go.Proofs.YtppfalbnhnpbnaaGreatDoor
open Go Go.RowKit Ly
set_option maxRecDepth 10000
theorem pO {P : Program} {w : World} {M n : Nat} {D : DataW Value} (h : w.ownsMap P 9 hR M n D) (hk : P.underlying 9 = some .string) (x : Bs) : x ∈ strKeys D ↔ Maps.has D (.string x) = true:=by
 obtain ⟨es,rfl,hko⟩:=h.keysOf
 show x ∈ es.map (fun p=>strOf p.1) ↔ _
 rw [Maps.has_eq,List.any_eq_true,List.mem_map]
 constructor
 ·rintro ⟨p,hp,rfl⟩
  obtain ⟨v,hv⟩:=hko p hp
  obtain ⟨y,_,hy,_⟩:=Maps.keyOf_str hk hv
  exact ⟨p,hp,by rw [hy];simp [strOf,Lit.sameKey]⟩
 ·rintro ⟨p,hp,hs⟩
  obtain ⟨v,hv⟩:=hko p hp
  obtain ⟨y,_,hy,_⟩:=Maps.keyOf_str hk hv
  rw [hy] at hs
  refine ⟨p,hp, ?_⟩
  rw [hy]
  simpa [strOf,Lit.sameKey] using hs
theorem strs_of_row {w : World} {B n : Nat} {v : Value} {L : List Bs} (h : w.ownsRow B 9 1 v n (L.map str)) (hn : n = L.length) : eP w L v:=by
 subst hn
 rcases h.2 with ⟨rfl,h0⟩ | ⟨g,cap,cur,rfl,hb,hg,h1,h2,h3,h4⟩
 ·have : L = []:=List.eq_nil_of_length_eq_zero h0
  subst this
  exact At.sl_nil (Nat.zero_le _)
 ·refine At.sl_mk (by simp) h1 h2 fun j d hd=>?_
  rw [List.getElem?_map] at hd
  obtain ⟨x,hx,rfl⟩:=Option.map_eq_some_iff.1 hd
  refine ⟨str x, ?_,rfl⟩
  have hc:=h.cells (g:=g) rfl j (str x) (by rw [List.getElem?_map,hx];rfl)
  rwa [addr_add] at hc
set_option maxHeartbeats 4000000 in
theorem Bound_c (f : Fm) (x : Value) (W : World) (hx0 : aV W f x) (hok : f.okNames = true) (hn : f.nodes ≤ 100000) (hbn : ∀ s ∈ f.binds,okS s) :
  Calls Tryz.prog 72 #[x] W fun e w'=>∃ L v,e = .returned v ∧ (∀ s,s ∈ L ↔ s ∈ f.binds) ∧ eP w' L v ∧ Below W.heap.size W w':=by
 obtain ⟨a,n,c,b,m,d,rfl,hx,hx'⟩:=hx0
 obtain ⟨W1,hW1⟩ : ∃ W1,W.alloc (.cells #[.int .u8 f.op,str f.name,.slice a n c,.slice b m d] 40) = W1:=⟨_,rfl⟩
 have bw : Below W.heap.size W W1:=by rw [← hW1];exact (Below.refl _ _).alloc (Nat.le_refl _) _
 have r0 : W1.heap[W.heap.size]? = some (.cells #[.int .u8 f.op,str f.name,.slice a n c,.slice b m d] 40 (0,0)):=by rw [← hW1];exact heap_alloc_new W _
 have sz : W1.heap.size = W.heap.size + 1:=by rw [← hW1];simp
 obtain ⟨M,hM⟩ : ∃ M,W1.heap.size = M:=⟨_,rfl⟩
 have AC : Hid (Calls Tryz.prog 120 #[.agg #[.int .u8 f.op,str f.name,.slice a n c,.slice b m d],.map (some M)] (W1.alloc (.map #[] 0)) fun e w'=>e = .returned (.tuple #[]) ∧ But1 M (W1.alloc (.map #[] 0)) w' ∧ ∃ n',n' ≤ 0 + f.nodes ∧ cQ w' M n' ([] ++ f.binds)):=by
  have b2 : Below W.heap.size W (W1.alloc (.map #[] 0)):=bw.alloc (by omega) _
  exact yR f (W1.alloc (.map #[] 0)) _ M 0 [] ⟨_,_,_,_,_,_,rfl,hx.keep (aA b2),hx'.keep (aA b2)⟩ (by rw [← hM];exact cQ.made W1) hok (by omega)
 have y : ∀ o,(W1.alloc o).cell? ⟨W.heap.size,0,none⟩ = some (.int .u8 f.op) ∧ (W1.alloc o).cell? ⟨W.heap.size,1,none⟩ = some (str f.name) ∧ (W1.alloc o).cell? ⟨W.heap.size,2,none⟩ = some (.slice a n c) ∧ (W1.alloc o).cell? ⟨W.heap.size,3,none⟩ = some (.slice b m d):=fun o=>(aL (aI o r0)).1
 have y0:=fun o=>(y o).1;have y1:=fun o=>(y o).2.1;have y2:=fun o=>(y o).2.2.1;have y3:=fun o=>(y o).2.2.2
 have BW:=Lib.hid bw
 have SZ:=Lib.hid sz
 have HM:=Lib.hid hM
 have HN:=Lib.hid hn
 have HB:=Lib.hid hbn
 have hmm:=@run_makeMap Tryz.prog
 clear hx hx' hok hn hbn bw r0 sz y
 go_enter Tryz.func72,Tryz.ntmps72
 go_wp2_with (first
  | (go_at_call 120;refine AC.out.mono ?_;rintro e w2 ⟨rfl,hb2,n',hn',hs2⟩;have B2 : Hid (Below W.heap.size W w2):=(BW.out.alloc BW.out.size _).trans (hb2.below (by have:=SZ.out;have:=HM.out;omega) (by have:=SZ.out;simp;omega));have S2:=Lib.hid hs2;have N2:=Lib.hid hn';clear hb2 hs2 hn' AC)
  | (go_at_call 122;refine ((callsIn_wide (n:=5)).1 (Tryz.maps_Keys_122 (some M) w2)).mono ?_;rintro e w3 ⟨rfl,rfl⟩)
  | (go_at_call 121;obtain ⟨D,h1,h2,h3,-⟩:=S2.out;refine ((callsIn_wide (n:=5)).1 (Tryz.slices_Sorted_keys_121_122 M n' D hR w2 h1 (Nat.le_trans h1.size_le (by have:=N2.out;have:=HN.out;unfold maxLen;omega)) (by have:=h1.size_le;have:=N2.out;have:=HN.out;omega))).mono ?_;rintro e w4 ⟨v,ss,rfl,hp,ho,hv,b4⟩;have HD:=Lib.hid (And.intro h1 h2);have HO:=Lib.hid ho;have HP:=Lib.hid hp;have B4:=Lib.hid b4;clear h1 h2 h3 hp ho hv b4))
 go_ret
 have hsz : (w2.alloc (.cells #[.map (some M)] 93)).heap.size = w2.heap.size + 1:=by simp
 refine ⟨ss.mergeSort (fun x y=>decide (x ≤ y)),v,rfl,fun s=>?_,strs_of_row HO.out (by rw [List.length_mergeSort]),B2.out.trans (((Below.refl _ w2).alloc (Nat.le_refl _) _).trans (B4.out.mono (by omega)) |>.mono B2.out.size)⟩
 rw [List.mem_mergeSort,HP.out.mem_iff,pO HD.out.1 Tryz.underlying9]
 have hs:=HD.out.2
 constructor
 ·intro h
  by_cases hl : okS s
  ·have:=hs s hl
   rw [show litS s = .string s from rfl,h] at this
   simpa using this.symm
  ·exfalso
   have hm : s ∈ strKeys D:=(pO HD.out.1 Tryz.underlying9 s).2 h
   exact hl (strKeys_le HD.out.1 Tryz.underlying9 s hm)
 ·intro h
  have:=hs s (HB.out s h)
  rw [show litS s = .string s from rfl] at this
  rw [this]
  simpa using h
end Go.Proofs.YtppfalbnhnpbnaaGreatDoor
namespace Ly
open Go.Lib (itoa decDigits)
mutual
theorem Tm.swap_ok {g : Bs → Option Bs} (hg : ∀ n m,g n = some m → bU m = true) : ∀ t : Tm,t.ok = true → (t.swap g).ok = true ∧ (t.swap g).nodes = t.nodes ∧ (t.swap g).depth = t.depth
 | .mk v n ts,h=>by
  rw [Tm.ok] at h
  cases v with
  | true =>
   simp only [if_true,Bool.and_eq_true,List.isEmpty_iff] at h
   obtain ⟨rfl,hn⟩:=h
   rw [Tm.swap]
   simp only [if_true]
   cases e : g n with
   | none=>simp [Tm.ok,hn,aO,Tm.nodes,Tm.depth]
   | some m=>simp [Tm.ok,hg n m e,Tm.nodes,Tm.depth]
  | false =>
   simp only [Bool.false_eq_true,if_false,Bool.and_eq_true,decide_eq_true_eq] at h
   obtain ⟨h1,h2,h3,h4⟩:=mY hg ts h.2
   rw [Tm.swap]
   simp only [Bool.false_eq_true,if_false]
   rw [Tm.ok,Tm.nodes,Tm.nodes,Tm.depth,Tm.depth,h2,h3,h4,h1]
   simp [h.1.1,h.1.2]
theorem mY {g : Bs → Option Bs} (hg : ∀ n m,g n = some m → bU m = true) : ∀ l : List Tm,cE l = true → cE (aO g l) = true ∧ (aO g l).length = l.length ∧ aF (aO g l) = aF l ∧ cC (aO g l) = cC l
 | [],_=>by simp [aO,cE]
 | t :: ts,h=>by
  simp only [cE,Bool.and_eq_true] at h
  obtain ⟨h1,h2,h3⟩:=Tm.swap_ok hg t h.1
  obtain ⟨k1,k2,k3,k4⟩:=mY hg ts h.2
  simp [aO,cE,aF,cC,h1,h2,h3,k1,k2,k3,k4]
end
theorem qK {ar : List (Bs × Bs)} {n m : Bs} (h : arOf ar n = some m) : ∃ p ∈ ar,p.2 = m:=by
 unfold arOf at h
 rw [Option.map_eq_some_iff] at h
 obtain ⟨p,h1,h2⟩:=h
 exact ⟨p,List.mem_of_find?_eq_some h1,h2⟩
mutual
theorem Fm.norm_ok {free : List Bs} : ∀ (ar : List (Bs × Bs)) (f : Fm),f.ok = true → (∀ p ∈ ar,bU p.2 = true) → free.length + ar.length + f.depth ≤ 1000000 → (f.norm free ar).ok = true ∧ (f.norm free ar).nodes = f.nodes ∧ (f.norm free ar).depth = f.depth ∧ (f.norm free ar).op = f.op
 | ar,.mk op n ts fs,h,ha,hd=>by
  simp only [Fm.ok,Bool.and_eq_true,decide_eq_true_eq] at h
  rw [Fm.depth] at hd
  have hg : ∀ n m,arOf ar n = some m → bU m = true:=fun n m e=>by
   obtain ⟨p,hp,rfl⟩:=qK e;exact ha p hp
  obtain ⟨t1,t2,t3,t4⟩:=mY hg ts h.1.2
  have hv : bU (least (free ++ ar.map (·.2))) = true:=var_least (by simp;omega)
  rw [Fm.norm]
  by_cases hq : op = 8 ∨ op = 9
  ·have e : quant op = true:=by simp [quant,hq]
   rw [if_pos e]
   obtain ⟨k1,k2,k3,k4⟩:=mN (free:=free) ((n,least (free ++ ar.map (·.2))) :: ar) fs h.2 (fun p hp=>by
    rcases List.mem_cons.1 hp with rfl | hp
    ·exact hv
    ·exact ha p hp) (by simp;omega)
   have h1 : ¬ op = 1:=by rcases hq with rfl | rfl <;> decide
   have hm:=h.1.1.2
   rw [if_neg h1,if_pos hq,Bool.and_eq_true,List.isEmpty_iff] at hm
   obtain ⟨rfl,hm⟩:=hm
   simp only [Fm.ok,Fm.nodes,Fm.depth,Fm.op,k1,k2,k3,k4,t1,t3,t4,aO]
   have h2 : arity op ≤ 2:=by have:=h.1.1.1;omega
   simp [h1,hq,hv,h.1.1.1,cE,h2]
  ·have e : quant op = false:=by simp [quant,hq]
   rw [e]
   obtain ⟨k1,k2,k3,k4⟩:=mN (free:=free) ar fs h.2 ha (by omega)
   simp only [Bool.false_eq_true,if_false]
   have hm:=h.1.1.2
   have hem : (aO (arOf ar) ts).isEmpty = ts.isEmpty:=by
    have:=t2
    cases ts with
    | nil=>rfl
    | cons a b=>simp [aO]
   simp only [Fm.ok,Fm.nodes,Fm.depth,Fm.op,k1,k2,k3,k4,t1,t2,t3,t4,hem,hm]
   have h2 : arity op ≤ 2:=by have:=h.1.1.1;omega
   simp [h.1.1.1,h2]
theorem mN {free : List Bs} : ∀ (ar : List (Bs × Bs)) (l : List Fm),bW l = true → (∀ p ∈ ar,bU p.2 = true) → free.length + ar.length + cL l ≤ 1000000 → bW (bK free ar l) = true ∧ (bK free ar l).length = l.length ∧ aD (bK free ar l) = aD l ∧ cL (bK free ar l) = cL l
 | ar,[],_,_,_=>by simp [bK,bW]
 | ar,f :: fs,h,ha,hd=>by
  simp only [bW,Bool.and_eq_true] at h
  rw [cL] at hd
  obtain ⟨h1,h2,h3,-⟩:=Fm.norm_ok (free:=free) ar f h.1 ha (by omega)
  obtain ⟨k1,k2,k3,k4⟩:=mN (free:=free) ar fs h.2 ha (by omega)
  simp [bK,bW,aD,cL,h1,h2,h3,k1,k2,k3,k4]
end
mutual
theorem Tm.vars_le : ∀ t : Tm,t.vars.length ≤ t.nodes
 | .mk v n ts=>by
  have:=nA ts
  rw [Tm.vars,Tm.nodes]
  cases v <;> simp <;> omega
theorem nA : ∀ l : List Tm,(bP l).length ≤ aF l
 | []=>by simp [bP,aF]
 | t :: ts=>by
  have:=Tm.vars_le t;have:=nA ts
  simp [bP,aF];omega
end
mutual
theorem Fm.free_le : ∀ (b : List Bs) (f : Fm),(f.free b).length ≤ f.nodes
 | b,.mk op n ts fs=>by
  have h1:=nA ts
  have h2:=List.length_filter_le (fun x=>decide (x ∉ b)) (bP ts)
  have h3:=qU (if quant op then n :: b else b) fs
  rw [Fm.free,Fm.nodes,List.length_append];omega
theorem qU : ∀ (b : List Bs) (l : List Fm),(bZ b l).length ≤ aD l
 | _,[]=>by simp [bZ]
 | b,f :: fs=>by
  have:=Fm.free_le b f;have:=qU b fs
  simp [bZ,aD];omega
end
theorem Fm.normal_right {f : Fm} (h : f.right = true) : f.normal.right = true ∧ f.normal.nodes = f.nodes ∧ f.normal.depth = f.depth ∧ f.normal.op = f.op:=by
 simp only [Fm.right,Bool.and_eq_true,decide_eq_true_eq] at h
 have hl:=Fm.free_le [] f
 obtain ⟨h1,h2,h3,h4⟩:=Fm.norm_ok (free:=f.free []) [] f h.1.1 (fun p hp=>by cases hp) (by simp;omega)
 unfold Fm.normal
 refine ⟨?_,h2,h3,h4⟩
 simp only [Fm.right,h1,h2,h3]
 simp [h.1.2,h.2]

/- Told names. -/
theorem wE (σ : List Sy) (s : Sy) : Sy.place σ s ≤ σ.length + 1:=by
 unfold Sy.place
 have h1:=List.countP_le_length (p:=fun t : Sy=>decide (t.kind = s.kind)) (l:=σ.takeWhile (fun t=>decide (t ≠ s)))
 have h2:=(List.takeWhile_prefix (fun t : Sy=>decide (t ≠ s)) (l:=σ)).length_le
 omega
theorem wS (σ : List Sy) (s : Sy) : (Sy.add σ s).length ≤ σ.length + 1 ∧ σ.length ≤ (Sy.add σ s).length:=by
 unfold Sy.add;split <;> simp
theorem itoa_small {n : Nat} (h : n ≤ 4) : (itoa (n : Int)).length = 1:=by
 rw [jS,decDigits,dif_pos (by omega)];simp
theorem told_var {σ : List Sy} {n : Bs} (h : σ.length ≤ 1000000) : bU (Sy.told σ ⟨117,n,0⟩) = true:=by
 have hp:=wE σ ⟨117,n,0⟩
 unfold Sy.told Sy.kind
 rw [if_pos rfl]
 show cG _ _ (117 :: itoa _) = true
 exact kW (by decide) (fun _ h=>h) xS (nR _) (by have:=fO (n:=Sy.place σ ⟨117,n,0⟩) (by omega);omega)
theorem wO {first other : UInt8 → Bool} {σ : List Sy} {c : UInt8} {n : Bs} {k : Nat} (hc : c ≠ 117) (hf : first c = true) (ho : ∀ x,digit x = true → other x = true) (hk : k ≤ 4) (h : σ.length ≤ 1000000) : cG first other (Sy.told σ ⟨c,n,k⟩) = true:=by
 have hp:=wE σ ⟨c,n,k⟩
 have hl:=fO (n:=Sy.place σ ⟨c,n,k⟩) (by omega)
 have hs:=itoa_small hk
 unfold Sy.told Sy.kind
 rw [if_neg hc]
 simp only [List.cons_append]
 refine kW hf ho ?_ ?_ (by simp;omega)
 ·intro e;have:=congrArg List.length e;simp [hs] at this
 ·rw [List.all_append,nR,nR];rfl
mutual
theorem Tm.told_ok {b : List Bs} : ∀ (t : Tm) (σ : List Sy),t.ok = true → σ.length + t.nodes ≤ 1000000 → (t.told b σ).1.ok = true ∧ (t.told b σ).1.nodes = t.nodes ∧ (t.told b σ).1.depth = t.depth ∧ (t.told b σ).2.length ≤ σ.length + t.nodes
 | .mk v n ts,σ,h,hs=>by
  rw [Tm.ok] at h
  rw [Tm.nodes] at hs
  have hl : (eB b σ v n ts.length).2.length ≤ σ.length + 1:=by
   unfold eB
   split
   ·split
    ·simp
    ·exact (wS _ _).1
   ·exact (wS _ _).1
  cases v with
  | true =>
   simp only [if_true,Bool.and_eq_true,List.isEmpty_iff] at h
   obtain ⟨rfl,hn⟩:=h
   have hv : bU (eB b σ true n 0).1 = true:=by
    unfold eB
    rw [if_pos rfl]
    split
    ·exact hn
    ·exact told_var (by omega)
   simp only [List.length_nil] at hl
   rw [Tm.told]
   simp only [Tm.ok,Tm.nodes,Tm.depth,aM,List.length_nil,hv,if_true,aF]
   simp;omega
  | false =>
   simp only [Bool.false_eq_true,if_false,Bool.and_eq_true,decide_eq_true_eq] at h
   obtain ⟨k1,k2,k3,k4,k5⟩:=mZ (b:=b) ts (eB b σ false n ts.length).2 h.2 (by omega)
   have hv : eS (eB b σ false n ts.length).1 = true:=by
    unfold eB
    simp only [Bool.false_eq_true,if_false]
    exact wO (by decide) (by decide) pD h.1.1 (by omega)
   rw [Tm.told]
   simp only [Tm.ok,Tm.nodes,Tm.depth,k1,k2,k3,k4,hv]
   refine ⟨by simp [h.1.1],trivial,trivial,by omega⟩
theorem mZ {b : List Bs} : ∀ (l : List Tm) (σ : List Sy),cE l = true → σ.length + aF l ≤ 1000000 → cE (aM b σ l).1 = true ∧ (aM b σ l).1.length = l.length ∧ aF (aM b σ l).1 = aF l ∧ cC (aM b σ l).1 = cC l ∧ (aM b σ l).2.length ≤ σ.length + aF l
 | [],σ,_,_=>by simp [aM,cE,aF]
 | t :: ts,σ,h,hs=>by
  simp only [cE,Bool.and_eq_true] at h
  rw [aF] at hs
  obtain ⟨h1,h2,h3,h4⟩:=Tm.told_ok (b:=b) t σ h.1 (by omega)
  obtain ⟨k1,k2,k3,k4,k5⟩:=mZ (b:=b) ts (t.told b σ).2 h.2 (by omega)
  simp only [aM,cE,aF,cC,List.length_cons,h1,h2,h3,k1,k2,k3,k4]
  refine ⟨rfl,trivial,trivial,trivial,by omega⟩
end
mutual
theorem Fm.told_ok {b : List Bs} : ∀ (f : Fm) (σ : List Sy),f.ok = true → σ.length + f.nodes ≤ 1000000 → (f.told b σ).1.ok = true ∧ (f.told b σ).1.nodes = f.nodes ∧ (f.told b σ).1.depth = f.depth ∧ (f.told b σ).1.op = f.op ∧ (f.told b σ).2.length ≤ σ.length + f.nodes
 | .mk op n ts fs,σ,h,hs=>by
  simp only [Fm.ok,Bool.and_eq_true,decide_eq_true_eq] at h
  rw [Fm.nodes] at hs
  have hl : (dT σ op n ts.length).2.length ≤ σ.length + 1:=by
   unfold dT
   split
   ·exact (wS _ _).1
   ·simp
  obtain ⟨k1,k2,k3,k4,k5⟩:=mZ (b:=b) ts (dT σ op n ts.length).2 h.1.2 (by omega)
  obtain ⟨j1,j2,j3,j4,j5⟩:=qX (b:=b) fs (aM b (dT σ op n ts.length).2 ts).2 h.2 (by omega)
  have hem : (aM b (dT σ op n ts.length).2 ts).1.isEmpty = ts.isEmpty:=by
   cases ts with
   | nil=>rfl
   | cons x y=>simp [aM]
  have hm:=h.1.1.2
  have hm2 : (if op = 1 then cW (dT σ op n ts.length).1 && decide (ts.length ≤ 4) else ts.isEmpty && (if op = 8 ∨ op = 9 then bU (dT σ op n ts.length).1 else (dT σ op n ts.length).1.isEmpty)) = true:=by
   by_cases h1 : op = 1
   ·rw [if_pos h1,Bool.and_eq_true,decide_eq_true_eq] at hm
    rw [if_pos h1]
    unfold dT
    rw [if_pos h1]
    have : cW (Sy.told σ ⟨80,n,ts.length⟩) = true:=wO (by decide) (by decide) pD hm.2 (by omega)
    simp [this,hm.2]
   ·unfold dT
    rw [if_neg h1] at hm ⊢
    rw [if_neg h1]
    exact hm
  rw [Fm.told]
  simp only [Fm.ok,Fm.nodes,Fm.depth,Fm.op,k1,k2,k3,k4,j1,j2,j3,j4,hem,hm2]
  have h2 : arity op ≤ 2:=by have:=h.1.1.1;omega
  refine ⟨by simp [h.1.1.1,h2],trivial,trivial,trivial,by omega⟩
theorem qX {b : List Bs} : ∀ (l : List Fm) (σ : List Sy),bW l = true → σ.length + aD l ≤ 1000000 → bW (bM b σ l).1 = true ∧ (bM b σ l).1.length = l.length ∧ aD (bM b σ l).1 = aD l ∧ cL (bM b σ l).1 = cL l ∧ (bM b σ l).2.length ≤ σ.length + aD l
 | [],σ,_,_=>by simp [bM,bW,aD]
 | f :: fs,σ,h,hs=>by
  simp only [bW,Bool.and_eq_true] at h
  rw [aD] at hs
  obtain ⟨h1,h2,h3,-,h4⟩:=Fm.told_ok (b:=b) f σ h.1 (by omega)
  obtain ⟨k1,k2,k3,k4,k5⟩:=qX (b:=b) fs (f.told b σ).2 h.2 (by omega)
  simp only [bM,bW,aD,cL,List.length_cons,h1,h2,h3,k1,k2,k3,k4]
  refine ⟨rfl,trivial,trivial,trivial,by omega⟩
end
theorem Fm.mid_right {f : Fm} {σ : List Sy} (h : f.right = true) (hs : σ.length ≤ 900000) : (f.normal.told f.normal.binds σ).1.right = true ∧ (f.normal.told f.normal.binds σ).1.nodes = f.nodes ∧ (f.normal.told f.normal.binds σ).1.op = f.op ∧ (f.sk σ).2.length ≤ σ.length + 400:=by
 obtain ⟨h1,h2,h3,h4⟩:=Fm.normal_right h
 have h5:=h1
 simp only [Fm.right,Bool.and_eq_true,decide_eq_true_eq] at h5
 obtain ⟨k1,k2,k3,k4,k5⟩:=Fm.told_ok (b:=f.normal.binds) f.normal σ h5.1.1 (by omega)
 refine ⟨?_,by rw [k2,h2],by rw [k4,h4],by show (f.normal.told f.normal.binds σ).2.length ≤ _;omega⟩
 simp only [Fm.right,k1,k2,k3]
 simp [h5.1.2,h5.2]
theorem Fm.sk_right {f : Fm} {σ : List Sy} (h : f.right = true) (hs : σ.length ≤ 900000) : (f.sk σ).1.right = true ∧ (f.sk σ).1.nodes = f.nodes ∧ (f.sk σ).1.op = f.op:=by
 obtain ⟨h1,h2,h3,-⟩:=Fm.mid_right h hs
 obtain ⟨k1,k2,-,k4⟩:=Fm.normal_right h1
 exact ⟨k1,k2.trans h2,k4.trans h3⟩
end Ly
namespace Go.Proofs.YtppfalbnhnpbnaaGreatDoor
open Go Go.RowKit Ly
set_option maxRecDepth 10000
theorem nameT_congr {b b' : List Bs} (h : ∀ s,s ∈ b ↔ s ∈ b') (σ : List Sy) (v : Bool) (n : Bs) (k : Nat) : eB b σ v n k = eB b' σ v n k:=by
 unfold eB
 by_cases hn : n ∈ b
 ·simp [hn,(h n).1 hn]
 ·simp [hn,show n ∉ b' from fun e=>hn ((h n).2 e)]
mutual
theorem told_congr {b b' : List Bs} (h : ∀ s,s ∈ b ↔ s ∈ b') : ∀ (t : Tm) (σ : List Sy),t.told b σ = t.told b' σ
 | .mk v n ts,σ=>by
  have e:=jL h ts
  simp only [Tm.told,nameT_congr h,e]
theorem jL {b b' : List Bs} (h : ∀ s,s ∈ b ↔ s ∈ b') : ∀ (ts : List Tm) (σ : List Sy),aM b σ ts = aM b' σ ts
 | [],σ=>rfl
 | t :: ts,σ=>by simp only [aM,told_congr h t,jL h ts]
end
mutual
theorem pM {b b' : List Bs} (h : ∀ s,s ∈ b ↔ s ∈ b') : ∀ (f : Fm) (σ : List Sy),f.told b σ = f.told b' σ
 | .mk op n ts fs,σ=>by
  have e:=mE h fs
  simp only [Fm.told,jL h,e]
theorem mE {b b' : List Bs} (h : ∀ s,s ∈ b ↔ s ∈ b') : ∀ (fs : List Fm) (σ : List Sy),bM b σ fs = bM b' σ fs
 | [],σ=>rfl
 | t :: ts,σ=>by simp only [bM,pM h t,mE h ts]
end
mutual
theorem vI : ∀ f : Fm,f.okNames = true → ∀ s ∈ f.binds,okS s
 | .mk op n ts fs,h,s,hs=>by
  simp only [Fm.okNames,Bool.and_eq_true,decide_eq_true_eq] at h
  simp only [Fm.binds,List.mem_append] at hs
  rcases hs with hs | hs
  ·split at hs
   ·simp at hs;subst hs;exact h.1.1
   ·simp at hs
  ·exact pH fs h.2 s hs
theorem pH : ∀ fs : List Fm,dU fs = true → ∀ s ∈ cJ fs,okS s
 | [],_,s,hs=>by simp [cJ] at hs
 | f :: fs,h,s,hs=>by
  simp only [dU,Bool.and_eq_true] at h
  simp only [cJ,List.mem_append] at hs
  rcases hs with hs | hs
  ·exact vI f h.1 s hs
  ·exact pH fs h.2 s hs
end
section
variable {g1 c1 gm cm : Nat} {σ σ' : List Sy} {W : World} {f vb : Value} {op : Int} {nm : Bs} {sl sm : Value} {X Y : World}
theorem MidP.fill (h : MidP g1 c1 gm cm σ W f vb op nm sl sm X) (hlt : g1 < W.heap.size ∧ c1 < W.heap.size ∧ gm < W.heap.size ∧ cm < W.heap.size) (op' : Int) (nm' : Bs) (sl' sm' : Value) :
  MidP g1 c1 gm cm σ W f vb op' nm' sl' sm' ((((X.setCell ⟨W.heap.size + 1,0,none⟩ (.int .u8 op')).setCell ⟨W.heap.size + 1,1,none⟩ (str nm')).setCell ⟨W.heap.size + 1,2,none⟩ sl').setCell ⟨W.heap.size + 1,3,none⟩ sm'):=by
 have key : ∀ k,k ≠ W.heap.size + 1 → ((((X.setCell ⟨W.heap.size + 1,0,none⟩ (.int .u8 op')).setCell ⟨W.heap.size + 1,1,none⟩ (str nm')).setCell ⟨W.heap.size + 1,2,none⟩ sl').setCell ⟨W.heap.size + 1,3,none⟩ sm').heap[k]? = X.heap[k]?:=fun k hk=>by rw [Below.heap_setCell _ _ _ _ hk,Below.heap_setCell _ _ _ _ hk,Below.heap_setCell _ _ _ _ hk,Below.heap_setCell _ _ _ _ hk]
 refine ⟨h.na.heap hlt (fun k hk=>key k (by omega)),(((h.bt.set (by omega) _ _).set (by omega) _ _).set (by omega) _ _).set (by omega) _ _,(key _ (by omega)).trans h.r0, ?_,(key _ (by omega)).trans h.r2⟩
 exact aC (o:=3) (u:=sm') (aC (o:=2) (u:=sl') (aC (o:=1) (u:=str nm') (aC (o:=0) (u:=.int .u8 op') h.r1)))
theorem MidP.bound (h : MidP g1 c1 gm cm σ W f vb op nm sl sm X) (hlt : g1 < W.heap.size ∧ c1 < W.heap.size ∧ gm < W.heap.size ∧ cm < W.heap.size) (vb' : Value) : MidP g1 c1 gm cm σ W f vb' op nm sl sm (X.setCell ⟨W.heap.size,1,none⟩ vb'):=by
 have key : ∀ k,k ≠ W.heap.size → (X.setCell ⟨W.heap.size,1,none⟩ vb').heap[k]? = X.heap[k]?:=fun k hk=>Below.heap_setCell _ _ _ _ hk
 refine ⟨h.na.heap hlt (fun k hk=>key k (by omega)),h.bt.set (by omega) _ _, ?_,(key _ (by omega)).trans h.r1,(key _ (by omega)).trans h.r2⟩
 exact aC (o:=1) (u:=vb') h.r0
theorem nL {B : World} {n : Nat} {u0 u1 u2 u3 : Value} {k : Nat} (h : k ≠ n) : ((((B.setCell ⟨n,0,none⟩ u0).setCell ⟨n,1,none⟩ u1).setCell ⟨n,2,none⟩ u2).setCell ⟨n,3,none⟩ u3).heap[k]? = B.heap[k]?:=by
 rw [Below.heap_setCell _ _ _ _ h,Below.heap_setCell _ _ _ _ h,Below.heap_setCell _ _ _ _ h,Below.heap_setCell _ _ _ _ h]
theorem pU {p : Nat → Bool} {w : World} : bI (hide p w) w:=fun a v hv=>by rw [cD (eA hv)] at hv;exact hv
theorem strs_set {w : World} {L : List Bs} {v a b u : Value} {B : Nat} {t : TypeId} (h : eP w L v) (hB : w.heap[B]? = some (.cells #[a,b] t (0,0))) (ha : ∀ s,a ≠ .string s) (hb : ∀ s,b ≠ .string s) : eP (w.setCell ⟨B,1,none⟩ u) L v:=by
 obtain ⟨x,cap,rfl,h1,h2,h3,h4⟩:=At.sl_inv h
 rcases h4 with h4 | ⟨g,off,rfl,hc⟩
 ·exact ⟨_,_,rfl,h1,h2,h3,.inl h4⟩
 ·by_cases hg : g = B
  ·subst hg
   cases L with
   | nil=>exact At.sl_nil h2
   | cons s L =>
    obtain ⟨y,hy,hy2⟩:=hc 0 (strD s) rfl
    rw [bE hB] at hy
    have hy3 : y = str s:=hy2
    subst hy3
    match off,hy with
    | 0,hy=>simp at hy;exact absurd hy (ha _)
    | 1,hy=>simp at hy;exact absurd hy (hb _)
    | o + 2,hy=>simp at hy
  ·refine At.sl_mk h3 h1 h2 fun j d hd=>?_
   obtain ⟨y,hy,hy2⟩:=hc j d hd
   cases L with
   | nil=>simp at hd
   | cons s L =>
    rw [List.getElem?_map] at hd
    obtain ⟨z,-,rfl⟩:=Option.map_eq_some_iff.1 hd
    exact ⟨y,by rw [World.cell?_of_block (w:=w) (Below.heap_setCell _ _ _ _ hg)];exact hy,hy2⟩
theorem aV.past {p : Nat → Bool} {w w' : World} {f : Fm} {x : Value} (h : aV (hide p w) f x) (k : ∀ k,k < w.heap.size → p k = false → w'.heap[k]? = w.heap[k]?) : aV (hide p w') f x:=h.keep (aH fun i a b=>⟨b,k i a b⟩)
end
def RetK (g1 c1 gm cm : Nat) (σ : List Sy) (f : Fm) (W : World) (e : Ending) (w' : World) : Prop :=
 ∃ v,e = .returned v ∧ aV (hide (lo W) w') (f.sk σ).1 v ∧ aY g1 c1 gm cm (f.sk σ).2 w' ∧ ButE (EN gm cm) W w'
set_option maxHeartbeats 8000000 in
theorem form_c (f : Fm) (g1 c1 gm cm : Nat) (σ : List Sy) (vb : Value) (W : World) (x : Value) (h : aY g1 c1 gm cm σ W) (hp : cK W) (hr : cU W) (hx0 : aV W f x) (hf : f.right = true) (hl : σ.length ≤ 800000) (hv : ∃ a n c,vb = .slice a n c) :
  Calls Tryz.prog 38 #[gI g1 c1 vb,x] W (RetK g1 c1 gm cm σ f W):=by
 obtain ⟨va,vn,vc,rfl⟩:=hv
 obtain ⟨a,N,c,a2,N2,c2,rfl,hx,hy⟩:=hx0
 obtain ⟨W0,hW0⟩ : ∃ W0,((W.alloc (.cells #[.func (.func 70) #[] #[one g1,one c1],.slice va vn vc] 80)).alloc (.cells #[.int .u8 f.op,str f.name,.slice a N c,.slice a2 N2 c2] 40)).alloc (.cells #[.int .u8 0,str [],.slice none 0 0,.slice none 0 0] 40) = W0:=⟨_,rfl⟩
 have lt:=h.lt
 have M0 : MidP g1 c1 gm cm σ W (.func (.func 70) #[] #[one g1,one c1]) (.slice va vn vc) f.op f.name (.slice a N c) (.slice a2 N2 c2) W0:=by
  have bw : Below W.heap.size W W0:=by rw [← hW0];exact (((Below.refl _ _).alloc (Nat.le_refl _) _).alloc (by simp) _).alloc (by simp;omega) _
  refine ⟨h.below bw,.of_below bw, ?_, ?_, ?_⟩
  ·rw [← hW0];exact aI _ (aI _ (heap_alloc_new W _))
  ·rw [← hW0]
   have:=heap_alloc_new (W.alloc (.cells #[.func (.func 70) #[] #[one g1,one c1],.slice va vn vc] 80)) (.cells #[.int .u8 f.op,str f.name,.slice a N c,.slice a2 N2 c2] 40)
   rw [World.size_alloc] at this
   exact aI _ this
  ·rw [← hW0]
   have:=heap_alloc_new ((W.alloc (.cells #[.func (.func 70) #[] #[one g1,one c1],.slice va vn vc] 80)).alloc (.cells #[.int .u8 f.op,str f.name,.slice a N c,.slice a2 N2 c2] 40)) (.cells #[.int .u8 0,str [],.slice none 0 0,.slice none 0 0] 40)
   rw [World.size_alloc,World.size_alloc] at this
   exact this
 obtain ⟨F1,hF1⟩ : ∃ F1,f.normal = F1:=⟨_,rfl⟩
 have nr:=Fm.normal_right hf
 have fr:=nr.1
 simp only [Fm.right,Bool.and_eq_true,decide_eq_true_eq] at fr
 have okn:=Fm.okNames_of f.normal fr.1.1
 have nn : f.normal.nodes ≤ 400:=fr.1.2
 have mr:=Fm.mid_right (σ:=σ) hf (by omega)
 have K0:=h.keepE M0.bt
 have N1 : Hid (Calls Tryz.prog 26 #[.agg #[.int .u8 f.op,str f.name,.slice a N c,.slice a2 N2 c2]] W0 (yN F1 W0)):=by rw [← hF1];exact vE f _ W0 (hr.keep K0) (h.powE M0.bt hp) ⟨_,_,_,_,_,_,rfl,hx.keep K0,hy.keep K0⟩ hf
 have BC : Hid (∀ X x,aV X F1 x → Calls Tryz.prog 72 #[x] X fun e w'=>∃ L v,e = .returned v ∧ (∀ s,s ∈ L ↔ s ∈ F1.binds) ∧ eP w' L v ∧ Below X.heap.size X w'):=by
  rw [← hF1];exact fun X x hx=>Bound_c _ x X hx okn (by omega) (vI _ okn)
 obtain ⟨F2,hF2⟩ : ∃ F2,(F1.told F1.binds σ).1 = F2:=⟨_,rfl⟩
 obtain ⟨σ2,hS2⟩ : ∃ σ2,(F1.told F1.binds σ).2 = σ2:=⟨_,rfl⟩
 have PC : Hid (∀ X x L v,(∀ s,s ∈ L ↔ s ∈ F1.binds) → eP X L v → aY g1 c1 gm cm σ X → ButE (EN gm cm) W X → aV X F1 x → Calls Tryz.prog 73 #[.agg #[.func (.func 70) #[] #[one g1,one c1],v],x] X fun e w'=>∃ v,e = .returned v ∧ aV (hide (lo X) w') F2 v ∧ aY g1 c1 gm cm σ2 w' ∧ ButE (EN gm cm) X w'):=by
  intro X x L v hL hS hn hb hv
  refine (zI F1 g1 c1 gm cm L σ v X x hn hS (h.powE hb hp) hv (by rw [← hF1];exact fr.1.1) (by rw [← hF1];omega) (by rw [← hF1];omega)).mono ?_
  rintro e w' ⟨v,rfl,q1,q2,q3⟩
  rw [pM hL] at q1 q2
  rw [hF2] at q1
  rw [hS2] at q2
  exact ⟨v,rfl,q1,q2,q3⟩
 have N2C : Hid (∀ X x,ButE (EN gm cm) W X → aV X F2 x → Calls Tryz.prog 26 #[x] X (yN F2.normal X)):=fun X x hb hv=>vE F2 x X (hr.keep (h.keepE hb)) (h.powE hb hp) hv (by rw [← hF2,← hF1];exact mr.1)
 have TE : Hid (f.sk σ = (F2.normal,σ2)):=by show _ = _;rw [← hF2,← hS2,← hF1];rfl
 have HM:=Lib.hid M0
 have LT:=Lib.hid lt
 have LN : Hid (∀ k,EN gm cm k → k < W.heap.size):=fun k hk=>by rcases hk with rfl | rfl <;> omega
 obtain ⟨⟨y0,y1,y2,y3⟩,z0,z1,z2,z3⟩:=aL M0.r1
 clear M0 h hp hr hx hy hf hl lt hF1 hF2 hS2 nr fr okn nn mr K0
 unfold gI
 go_enter Tryz.func38,Tryz.ntmps38
 go_wp2_with (first
  | (
    go_at_call 26
    refine N1.out.mono ?_
    rintro e w1 ⟨fa,fn,fc,fb,fm,fd,rfl,h3,h4,b1⟩
    have M1:=Lib.hid (HM.out.next LN.out (HM.out.na.below b1) (.of_below b1))
    have H1:=Lib.hid (And.intro h3 h4)
    clear N1 h3 h4 b1 y0 y1 y2 y3 z0 z1 z2 z3 hW0
    obtain ⟨⟨y0,y1,y2,y3⟩,z0,z1,z2,z3⟩:=aL M1.out.r1
    have M2:=Lib.hid (M1.out.fill LT.out F1.op F1.name (.slice fa fn fc) (.slice fb fm fd))
    have LW : Hid (W.heap.size + 1 + 1 < W0.heap.size):=(Array.getElem?_eq_some_iff.1 HM.out.r2).1
    have V2 : Hid (aV (hide (lo W0) ((((w1.setCell ⟨W.heap.size + 1,0,none⟩ (.int .u8 F1.op)).setCell ⟨W.heap.size + 1,1,none⟩ (str F1.name)).setCell ⟨W.heap.size + 1,2,none⟩ (.slice fa fn fc)).setCell ⟨W.heap.size + 1,3,none⟩ (.slice fb fm fd))) F1 (.agg #[.int .u8 F1.op,str F1.name,.slice fa fn fc,.slice fb fm fd])) :=
     aV.past (w:=w1) ⟨_,_,_,_,_,_,rfl,H1.out.1,H1.out.2⟩ fun k a b=>nL (by have:=LW.out;simp [lo] at b;omega)
    obtain ⟨⟨q0,q1,q2,q3⟩,-,-,-,-⟩:=aL M2.out.r1)
  | (
    go_at_call 72
    refine (BC.out _ _ (V2.out.keep pU)).mono ?_
    rintro e w3 ⟨L,v3,rfl,hL,hS,b3⟩
    obtain ⟨ka,kc,rfl,-,-,-,-⟩:=At.sl_inv hS
    have M3:=Lib.hid (M2.out.next LN.out (M2.out.na.below b3) (.of_below b3))
    have V3:=Lib.hid (aV.past (w':=w3) V2.out fun k a b=>b3.block k a)
    clear V2 b3 y0 y1 y2 y3 z0 z1 z2 z3 q0 q1 q2 q3
    obtain ⟨x0,x1,y0,y1⟩:=row2 M3.out.r0
    have M4:=Lib.hid (M3.out.bound LT.out (.slice ka L.length kc))
    have S4:=Lib.hid (strs_set (u:=.slice ka L.length kc) hS M3.out.r0 (fun s e=>by cases e) (fun s e=>by cases e))
    have V4 : Hid (aV (hide (lo W0) (w3.setCell ⟨W.heap.size,1,none⟩ (.slice ka L.length kc))) F1 (.agg #[.int .u8 F1.op,str F1.name,.slice fa fn fc,.slice fb fm fd])):=aV.past V3.out fun k a b=>Below.heap_setCell _ _ _ _ (by have:=LW.out;simp [lo] at b;show k ≠ W.heap.size;omega)
    have HLL:=Lib.hid hL
    clear hS hL V3
    obtain ⟨e0,e1,-,-⟩:=row2 M4.out.r0
    obtain ⟨⟨q0,q1,q2,q3⟩,-,-,-,-⟩:=aL M4.out.r1)
  | (
    go_at_call 73
    refine (PC.out _ _ L _ HLL.out S4.out M4.out.na M4.out.bt (V4.out.keep pU)).mono ?_
    rintro e w5 ⟨v5,rfl,⟨pa,pn,pc,pb,pm,pd,rfl,h5,h6⟩,n5,b5⟩
    have M5:=Lib.hid (M4.out.next LN.out n5 b5)
    have V5 : Hid (aV w5 F2 (.agg #[.int .u8 F2.op,str F2.name,.slice pa pn pc,.slice pb pm pd])):=⟨_,_,_,_,_,_,rfl,h5.keep pU,h6.keep pU⟩
    clear h5 h6 n5 b5 V4 S4 HLL x0 x1 y0 y1 e0 e1 q0 q1 q2 q3)
  | (
    go_at_call 26
    refine (N2C.out _ _ M5.out.bt V5.out).mono ?_
    rintro e w6 ⟨ra,rn,rc,rb,rm,rd,rfl,h7,h8,b6⟩
    have M6:=Lib.hid (M5.out.next LN.out (M5.out.na.below b6) (.of_below b6))
    have H7:=Lib.hid (And.intro h7 h8)
    clear h7 h8 b6
    obtain ⟨⟨y0,y1,y2,y3⟩,z0,z1,z2,z3⟩:=aL M6.out.r1
    have M7:=Lib.hid (M6.out.fill LT.out F2.normal.op F2.normal.name (.slice ra rn rc) (.slice rb rm rd))
    obtain ⟨⟨q0,q1,q2,q3⟩,-,-,-,-⟩:=aL M7.out.r1
    obtain ⟨⟨s0,s1,s2,s3⟩,x0,x1,x2,x3⟩:=aL M7.out.r2))
 obtain ⟨h7,h8⟩:=H7.out
 have lw5:=M5.out.bt.size
 have lw:=(Array.getElem?_eq_some_iff.1 M5.out.r2).1
 have M8:=Lib.hid (M7.out)
 have g:=aC (o:=3) (u:=.slice rb rm rd) (aC (o:=2) (u:=.slice ra rn rc) (aC (o:=1) (u:=str F2.normal.name) (aC (o:=0) (u:=.int .u8 F2.normal.op) M7.out.r2)))
 refine bodyPost_ret (jV rfl _ _ (W.heap.size + 1 + 1) _ _ _ _ (0,0) rfl g) rfl ?_
 have ky : ∀ k,W.heap.size + 1 + 1 < k → _ = w6.heap[k]?:=fun k hk=>(nL (B:=_) (n:=W.heap.size + 1 + 1) (u0:=.int .u8 F2.normal.op) (u1:=str F2.normal.name) (u2:=.slice ra rn rc) (u3:=.slice rb rm rd) (k:=k) (by omega)).trans (nL (B:=w6) (n:=W.heap.size + 1) (u0:=.int .u8 F2.normal.op) (u1:=str F2.normal.name) (u2:=.slice ra rn rc) (u3:=.slice rb rm rd) (k:=k) (by omega))
 refine ⟨.agg #[.int .u8 F2.normal.op,str F2.normal.name,.slice ra rn rc,.slice rb rm rd],rfl, ?_, ?_,((((M7.out.bt.set (by omega) _ _).set (by omega) _ _).set (by omega) _ _).set (by omega) _ _)⟩
 ·rw [TE.out]
  refine ⟨_,_,_,_,_,_,rfl, ?_, ?_⟩
  ·refine h7.keep (aH fun k h1 h2=>?_)
   simp only [lo,decide_eq_false_iff_not,Nat.not_lt] at h2 ⊢
   exact ⟨by omega,ky k (by omega)⟩
  ·refine h8.keep (aH fun k h1 h2=>?_)
   simp only [lo,decide_eq_false_iff_not,Nat.not_lt] at h2 ⊢
   exact ⟨by omega,ky k (by omega)⟩
 ·rw [TE.out]
  exact M7.out.na.heap LT.out (fun k hk=>nL (by omega))
end Go.Proofs.YtppfalbnhnpbnaaGreatDoor
