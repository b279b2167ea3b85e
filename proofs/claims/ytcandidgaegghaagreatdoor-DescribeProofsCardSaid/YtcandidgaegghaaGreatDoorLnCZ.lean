/- Lists of marks that may be overwritten (OkMs), and the storing of a mark into one. Nothing of the program is walked. -/
import Derived.Test.YtcandidgaegghaaGreatDoorOvEZ
import Derived.Test.YtcandidgaegghaaGreatDoorCpZ
import Derived.Test.YtcandidgaegghaaGreatDoorOvCZ
import Derived.Test.YtcandidgaegghaaGreatDoorOvAZ
set_option maxRecDepth 10000
set_option linter.unusedSimpArgs false
set_option linter.unusedVariables false
namespace Go.Proofs.YtcandidgaegghaaGreatDoor
open Go Go.RowKit Go.Sort Ly
def OkMs (B : Nat) (S : Nat → Prop) (W : World) (u : Value) : Prop :=
 ∃ a l c,u = .slice a l c ∧ l ≤ c ∧ (c = 0 ∨ ∃ (b off : Nat) (xs : Array Value),a = some ⟨b,off,none⟩ ∧ S b ∧ W.heap[b]? = some (Obj.cells xs 29 (0,0)) ∧ off + c ≤ xs.size ∧ kK l c ∧ ∀ j : Nat,j < l → ∃ v,xs[off + j]? = some v ∧ OkI B W v)
theorem Mk1.ok {B : Nat} {W : World} {u : Option Value} (h : Mk1 B W u) : ∃ v,u = some v ∧ OkI B W v:=by
 obtain ⟨b,xs,e,h1,h2,h3⟩:=h
 exact ⟨_,e,_,1,1,rfl,Nat.le_refl _,.inr ⟨b,0,xs,rfl,h1,h2,by omega,by omega,by omega⟩⟩
theorem OkMs.ovr {B : Nat} {S : Nat → Prop} {W W' : World} (h : Ovr B S W W') {u : Value} (k : OkMs B S W u) : OkMs B S W' u:=by
 obtain ⟨a,l,c,e,hl,k⟩:=k
 refine ⟨a,l,c,e,hl,k.elim .inl fun ⟨b,off,xs,h1,h2,h3,h4,h5,h6⟩=>.inr ?_⟩
 obtain ⟨ys,e1,r,q⟩:=h.mks b xs h3
 refine ⟨b,off,ys,h1,h2,e1,by rw [r];exact h4,h5,fun j hj=>?_⟩
 rcases q (off + j) (by omega) with x | x
 ·obtain ⟨v,x0,x1⟩:=h6 j hj
  exact ⟨v,x.trans x0,x1.ovr h⟩
 ·exact x.ok
theorem Ovr.mk1 {B : Nat} {S : Nat → Prop} {W : World} {b o b1 : Nat} {xs zs : Array Value} (hb : S b) (h : W.heap[b]? = some (Obj.cells xs 29 (0,0))) (h1 : B ≤ b1) (h2 : W.heap[b1]? = some (Obj.cells zs 3 (0,0))) (h3 : 1 ≤ zs.size) : Ovr B S W (W.setCell ⟨b,o,none⟩ (.slice (some ⟨b1,0,none⟩) 1 1)):=by
 have e1:=aC (o:=o) (u:=.slice (some ⟨b1,0,none⟩) 1 1) h
 have ne : ∀ b' : Nat,b' ≠ b → (W.setCell ⟨b,o,none⟩ (.slice (some ⟨b1,0,none⟩) 1 1)).heap[b']? = W.heap[b']?:=fun b' hh=>Below.heap_setCell _ _ _ _ hh
 have n1 : b1 ≠ b:=fun e=>by subst e;rw [h] at h2;simp at h2
 have go : ∀ (b' : Nat) (ys : Array Value) (t : TypeId),t ≠ 29 → W.heap[b']? = some (Obj.cells ys t (0,0)) → (W.setCell ⟨b,o,none⟩ (.slice (some ⟨b1,0,none⟩) 1 1)).heap[b']? = some (Obj.cells ys t (0,0)):=fun b' ys t ht e=>by
  by_cases hh : b' = b
  ·subst hh;rw [h] at e;simp at e;exact absurd e.2.symm ht
  ·rw [ne b' hh];exact e
 refine ⟨rfl,rfl,rfl,by simp [World.setCell],fun b' _ hn _=>ne b' (fun e=>hn (e ▸ hb)),fun b' ys e=>⟨ys,go b' ys _ (by decide) e,cY.refl _ _ _⟩,fun b' ys e=>⟨ys,go b' ys _ (by decide) e,cY.refl _ _ _⟩,fun b' ys e=>⟨ys,go b' ys _ (by decide) e,cY.refl _ _ _⟩,fun b' ys e=>?_,fun b' ys e=>⟨ys,go b' ys _ (by decide) e,rfl⟩⟩
 by_cases hh : b' = b
 ·subst hh
  rw [h] at e
  obtain rfl : xs = ys:=by simpa using e
  refine ⟨_,e1,by simp,fun j hj=>?_⟩
  by_cases hj' : o = j
  ·subst hj'
   exact .inr ⟨b1,zs,by simp [Array.getElem?_setIfInBounds,hj],h1,(ne b1 n1).trans h2,h3⟩
  ·exact .inl (Array.getElem?_setIfInBounds_ne hj')
 ·exact ⟨ys,by rw [ne b' hh];exact e,rfl,fun _ _=>.inl rfl⟩
open Go Go.RowKit Ly
set_option maxHeartbeats 1600000
theorem info3m : (Tryz.prog.info? 3).map (fun i=>(i.zero,i.size,i.bytes)) = some (some (.int .i64 0),1,8):=by kernel_rfl
theorem FH (w : World) (a : Value) {t : TypeId} : ∀ (j : Nat) (u : Value),[a][j]? = some u → (w.alloc (.cells #[a] t)).cell? ((⟨w.heap.size,0,none⟩ : Addr).add j) = some u:=by
 intro j u hu
 rw [show ((⟨w.heap.size,0,none⟩ : Addr).add j) = ⟨w.heap.size,j,none⟩ by simp [Addr.add];omega,box_cell (heap_alloc_new w _)]
 rw [← hu];simp
theorem u102 : ∃ fs,Tryz.prog.underlying 102 = some (.struct fs):=⟨_,Tryz.underlying102⟩
theorem i102 : (Tryz.prog.info? 102).map (·.size) = some 3:=by kernel_rfl
theorem res102 {fn : Func} {p : Tmp} (h : fn.results = #[.cell p 102]) (tmps : Array Value) (w : World) (g : Nat) (x0 x1 x2 : Value) (fr : Nat × Nat)
  (hp : tmps.getD p undef = one g) (hg : w.heap[g]? = some (.cells #[x0,x1,x2] 102 fr)) : (results fn tmps).run Tryz.prog w = .ok (.agg #[x0,x1,x2]) w:=by
 obtain ⟨fs,h1⟩:=u102
 exact results_cell_row h tmps w g 102 #[x0,x1,x2] fr _ hp hg h1 rfl i102
theorem row102 {w : World} {b : Nat} {x0 x1 x2 : Value} (h : w.heap[b]? = some (.cells #[x0,x1,x2] 102 (0,0))) :
  w.cell? ⟨b,0,none⟩ = some x0 ∧ w.cell? ⟨b,1,none⟩ = some x1 ∧ w.cell? ⟨b,2,none⟩ = some x2 ∧ w.frozen? ⟨b,0,none⟩ = false ∧ w.frozen? ⟨b,1,none⟩ = false ∧ w.frozen? ⟨b,2,none⟩ = false :=
 ⟨(box_cell h 0).trans rfl,(box_cell h 1).trans rfl,(box_cell h 2).trans rfl,by simp [World.frozen?,h],by simp [World.frozen?,h],by simp [World.frozen?,h]⟩
theorem markFact_c (i : Nat) (hi : i < 12) (w : World) : Calls Tryz.prog 137 #[.int .i64 1,.int .i64 i] w (Rt (.agg #[str (bD i),.int .i64 0,.int .i64 0]) w):=by
 have HB : Hid (Below w.heap.size w (w.alloc (.cells #[str [],.int .i64 0,.int .i64 0] 102))):=bnew
 have HG:=Hd (heap_alloc_new w (.cells #[str [],.int .i64 0,.int .i64 0] 102))
 have R : Hid (∀ W,Calls Tryz.prog 182 #[.int .i64 1,.int .i64 i] W (Rt (str (bD i)) W)):=fun W=>jK i hi W
 generalize bD i = M at R
 go_enter Tryz.func137,Tryz.ntmps137
 go_wp2_with (go_at_call 182;refine (R.out _).mono ?_;rintro e w1 ⟨rfl,b1⟩;have B1:=Hd (aB HB.out b1);have G1:=Hd (kc b1 HG.out);clear b1;obtain ⟨c0,c1,c2,f0,f1,f2⟩:=row102 G1.out)
 have g1:=aC (o:=0) (u:=str M) G1.out
 have g2:=aC (o:=1) (u:=.int .i64 0) g1
 have g3:=aC (o:=2) (u:=.int .i64 0) g2
 refine bodyPost_ret (res102 rfl _ _ w.heap.size _ _ _ (0,0) rfl g3) rfl ?_
 exact ⟨rfl,(((B1.out.setCell (by simp) _).setCell (by simp) _).setCell (by simp) _)⟩
theorem lentInts_c (zs : List Value) (h1 : ∀ u ∈ zs,u.oneCell' = true) (n : Nat) (hn : n * 8 ≤ 140737488351232) (a : Option Addr) (m c : Nat) (w : World) (hx : cR w 1 zs n (.slice a m c)) :
  Calls Tryz.prog 61 #[.slice a m c] w fun e w'=>∃ b cap,e = .returned (.slice (some ⟨b,0,none⟩) m cap) ∧ eI (hide (lo w) w') 1 zs (marksOf oQ 12) m (.slice (some ⟨b,0,none⟩) m cap) ∧ Below w.heap.size w w':=by
 obtain rfl : m = n:=hx.len.1
 have hzl:=hx.len.2.2.2
 have hml : m ≤ 9223372036854775000:=by omega
 obtain ⟨i0,hi0,hz0,hs0,hb0⟩:=info_parts info3m
 have HX:=Hd hx
 have H1:=Hd h1
 have HZ:=Hd hzl
 clear hx h1 hzl
 go_enter Tryz.func61,Tryz.ntmps61
 go_upto_region 3 with (first
  | (at_make;refine wpList_make_own _ rfl _ _ 29 rfl w.heap.size 3 i0 (.int .i64 0) 1 Tryz.underlying29 hi0 hz0 hs0 _ _ _ (m + 12) rfl rfl (by first | rfl | omega) (by rw [hb0];omega) (by unfold maxLen;omega) (Nat.le_refl _) ?_;intro w1 hown1 hgrow1;have HO1:=Hd hown1;have B1:=Hd (below_grown hgrow1 (fun _ e=>by cases e) (Nat.le_refl _));clear hown1 hgrow1)
  | (at_builtin;refine lR _ rfl _ _ 29 rfl w.heap.size 3 i0 1 Tryz.underlying29 hi0 hs0 w.heap.size 0 (m + 12) _ rfl HO1.out a m c zs rfl (HX.out.keep (aA B1.out)) H1.out (by omega) ?_;intro w2 hown2 hgrow2;have HO2:=Hd hown2;have B2:=Hd (B1.out.trans (below_grown hgrow2 (fun x e=>by cases e;exact Nat.le_refl _) B1.out.size));clear hown2 hgrow2))
 have LR : Hid (mL w 3 1 zs oQ m 0 w2):=⟨by have:=HO2.out;simpa [marksOf] using this,B2.out⟩
 clear HO1 HO2 HX
 go_wp2_with fail
 go_loopw [3,4] (fun u i wr=>∃ p : Nat,p ≤ 12 ∧ i = .int .i64 p ∧ u = .slice (some ⟨w.heap.size,0,none⟩) (m + p) (m + 12) ∧ Hid (mL w 3 1 zs oQ m p wr)) (fun _ i _=>12 - (intOf i).toNat)
 case atStart=>exact ⟨0,by omega,rfl,by first | rfl | simp,LR.out⟩
 case round =>
  clear LR
  obtain ⟨p,hp,rfl,rfl,hs⟩:=hrel
  by_cases hlt : p < 12
  ·go_wp2_with (first
    | (go_at_call 136;refine (xV p hlt _).mono ?_;rintro e w3 ⟨rfl,rfl⟩;have OW:=Hd hs.out.own;have B3 : Hid (Below w3.heap.size w3 w3):=Below.refl _ _)
    | (at_builtin;refine wpList_append_fits _ rfl _ _ 29 rfl w.heap.size 3 i0 1 Tryz.underlying29 hi0 hs0 w.heap.size (m + p) (m + 12) _ rfl (OW.out.alloc _) ⟨w3.heap.size,0,none⟩ 1 1 [.int .i64 (fL p)] rfl rfl (FH _ _) (by simp [Value.oneCell']) (by omega) ?_;intro w4 hown4 hgrow4))
   go_roundw
   case rel =>
    refine ⟨p + 1,by omega,by go_num,rfl, ?_⟩
    have bA : ∀ o,Below w3.heap.size w3 (w3.alloc o):=fun o=>bnew
    exact mL.mark (aB (aB hs.out.bw B3.out) (bA _)) (Nat.le_trans hs.out.bw.size (Nat.le_trans B3.out.size (by simp))) hown4 hgrow4
   case measure=>simp [intOf];omega
  ·obtain rfl : p = 12:=by omega
   have LE:=Hd (hs.out.lent HZ.out (by unfold maxLen;omega))
   have LB:=Hd hs.out.bw
   clear hs
   go_wp2_with fail
   go_ret
   exact ⟨_,_,rfl,LE.out,LB.out⟩
end Go.Proofs.YtcandidgaegghaaGreatDoor
namespace Ly
end Ly
namespace Go.Proofs.YtcandidgaegghaaGreatDoor
open Go Go.RowKit Ly
set_option maxHeartbeats 1600000
def inV (l : List Int) : List Value:=l.map (Value.int .i64)
theorem inV_one (l : List Int) : ∀ u ∈ inV l,u.oneCell' = true:=by
 intro u hu
 obtain ⟨x,_,rfl⟩:=List.mem_map.1 hu
 rfl
open Go Go.RowKit Ly
def MsC (W : World) (l : List (List Int)) (ys : List Value) : Prop:=ys.length = l.length ∧ ∀ (j : Nat) (x : List Int),l[j]? = some x → ∃ v,ys[j]? = some v ∧ eI W 1 (inV x) (marksOf oQ 12) x.length v
def MkC (W : World) (n : Nat) (ys : List Value) : Prop:=ys.length = n ∧ ∀ j : Nat,j < n → ∃ v,ys[j]? = some v ∧ cR W 1 [.int .i64 (fL j)] 1 v
def oC (W : World) (l : List (List Int)) (u : Value) : Prop:=∃ (b cap : Nat) (zs ms : List Value),u = .slice (some ⟨b,0,none⟩) l.length cap ∧ l.length + 12 ≤ cap ∧ cap ≤ maxLen ∧ jW W b (zs ++ ms) ∧ MsC W l zs ∧ MkC W 12 ms
theorem MsC.keep {W W' : World} (k : aR W W') {l : List (List Int)} {ys : List Value} (h : MsC W l ys) : MsC W' l ys :=
 ⟨h.1,fun j x hx=>by obtain ⟨v,h1,h2⟩:=h.2 j x hx;exact ⟨v,h1,h2.keep k⟩⟩
theorem MkC.keep {W W' : World} (k : aR W W') {n : Nat} {ys : List Value} (h : MkC W n ys) : MkC W' n ys :=
 ⟨h.1,fun j hj=>by obtain ⟨v,h1,h2⟩:=h.2 j hj;exact ⟨v,h1,h2.keep k⟩⟩
theorem oC.keep {W W' : World} {l : List (List Int)} {u : Value} (h : oC W l u) (k : aR W W') : oC W' l u:=by
 obtain ⟨b,cap,zs,ms,h1,h2,h3,h4,h5,h6⟩:=h
 exact ⟨b,cap,zs,ms,h1,h2,h3,h4.keep k,h5.keep k,h6.keep k⟩
theorem MsC.put {W : World} {l : List (List Int)} {ys : List Value} {x : List Int} {v : Value} (h : MsC W l ys) (hv : eI W 1 (inV x) (marksOf oQ 12) x.length v) : MsC W (l ++ [x]) (ys ++ [v]):=by
 refine ⟨by simp [h.1],fun j t ht=>?_⟩
 by_cases hj : j < l.length
 ·rw [List.getElem?_append_left hj] at ht
  obtain ⟨u,h1,h2⟩:=h.2 j t ht
  exact ⟨u,by rw [List.getElem?_append_left (by rw [h.1];exact hj)];exact h1,h2⟩
 ·have hj' : j = l.length:=by
   have:=(List.getElem?_eq_some_iff.1 ht).1
   simp at this;omega
  subst hj'
  simp at ht;subst ht
  exact ⟨v,by rw [← h.1];simp,hv⟩
theorem MkC.put {W : World} {n : Nat} {ys : List Value} {v : Value} (h : MkC W n ys) (hv : cR W 1 [.int .i64 (fL n)] 1 v) : MkC W (n + 1) (ys ++ [v]):=by
 refine ⟨by simp [h.1],fun j hj=>?_⟩
 by_cases hj' : j < n
 ·obtain ⟨u,h1,h2⟩:=h.2 j hj'
  exact ⟨u,by rw [List.getElem?_append_left (by rw [h.1];exact hj')];exact h1,h2⟩
 ·obtain rfl : j = n:=by omega
  exact ⟨v,by rw [← h.1];simp,hv⟩
theorem mF {W : World} {x : List Int} {v : Value} : dZ W x v ↔ cR W 1 (inV x) x.length v:=by
 have e : x.map intD = (inV x).map D.val:=by simp [inV,intD]
 unfold dZ
 rw [e]
 exact ⟨xB,cR.to⟩
theorem MsC.cells {W : World} {l : List (List Int)} {ys : List Value} (h : MsC W l ys) : aP W (l.map eY) ys:=by
 refine ⟨by simp [h.1],fun j d hd=>?_⟩
 rw [List.getElem?_map] at hd
 obtain ⟨x,hx,rfl⟩:=Option.map_eq_some_iff.1 hd
 obtain ⟨v,h1,h2⟩:=h.2 j x hx
 exact ⟨v,h1,mF.2 h2.flat⟩
theorem oC.at {W : World} {l : List (List Int)} {u : Value} (h : oC W l u) : eB W l u:=by
 obtain ⟨b,cap,zs,ms,rfl,h2,h3,h4,h5,h6⟩:=h
 exact rN h5.cells h4 (by simp) (by omega) h3
def jL (i : Nat) : List Value:=[str (bD i),.int .u8 0,str [],.slice none 0 0,.slice none 0 0,.int .i64 (fL i),.slice none 0 0,.slice none 0 0]
mutual
def PfL (W : World) : Pf → List Value → Prop
 | .mk r f lb ps ms,cs=>∃ (a u q : Value) (b cap : Nat) (zs : List Value),cs = [str r,.int .u8 f.op,str f.name,a,u,.int .i64 lb,.slice (some ⟨b,0,none⟩) ps.length cap,q] ∧ (dJ W f.args a ∧ eW W f.sub u ∧ oC W ms q) ∧ ps.length + 12 ≤ cap ∧ cap ≤ maxLen ∧ jW W b (zs ++ marksOf jL 12) ∧ PfsC W ps zs
def PfsC (W : World) : List Pf → List Value → Prop
 | [],ys=>ys = []
 | t :: ts,ys=>∃ c r,ys = c ++ r ∧ PfL W t c ∧ PfsC W ts r
end
def jR (W : World) (l : List Pf) (u : Value) : Prop:=∃ (b cap : Nat) (zs : List Value),u = .slice (some ⟨b,0,none⟩) l.length cap ∧ l.length + 12 ≤ cap ∧ cap ≤ maxLen ∧ jW W b (zs ++ marksOf jL 12) ∧ PfsC W l zs
theorem rV {W : World} {t : Pf} {cs : List Value} : PfL W t cs ↔ ∃ a u q s,cs = [str t.rule,.int .u8 t.form.op,str t.form.name,a,u,.int .i64 t.label,s,q] ∧ dJ W t.form.args a ∧ eW W t.form.sub u ∧ oC W t.marks q ∧ jR W t.sub s:=by
 obtain ⟨r,f,lb,ps,ms⟩:=t
 rw [PfL]
 constructor
 ·rintro ⟨a,u,q,b,cap,zs,rfl,⟨h1,h2,h3⟩,h⟩
  exact ⟨a,u,q,_,rfl,h1,h2,h3,b,cap,zs,rfl,h⟩
 ·rintro ⟨a,u,q,s,rfl,h1,h2,h3,b,cap,zs,rfl,h⟩
  exact ⟨a,u,q,b,cap,zs,rfl,⟨h1,h2,h3⟩,h⟩
mutual
theorem PfL.keep {W W' : World} (k : aR W W') : ∀ (t : Pf) (cs : List Value),PfL W t cs → PfL W' t cs
 | .mk r f lb ps ms,cs,h=>by
  rw [PfL] at h ⊢
  obtain ⟨a,u,q,b,cap,zs,h1,⟨k1,k2,k3⟩,h2,h3,h4,h5⟩:=h
  exact ⟨a,u,q,b,cap,zs,h1,⟨k1.keep k,k2.keep k,k3.keep k⟩,h2,h3,h4.keep k,PfsC.keep k ps zs h5⟩
theorem PfsC.keep {W W' : World} (k : aR W W') : ∀ (l : List Pf) (ys : List Value),PfsC W l ys → PfsC W' l ys
 | [],ys,h=>by rw [PfsC] at h ⊢;exact h
 | t :: ts,ys,h=>by
  rw [PfsC] at h ⊢
  obtain ⟨c,r,e,h1,h2⟩:=h
  exact ⟨c,r,e,PfL.keep k t c h1,PfsC.keep k ts r h2⟩
end
theorem jR.keep {W W' : World} {l : List Pf} {u : Value} (h : jR W l u) (k : aR W W') : jR W' l u:=by
 obtain ⟨b,cap,zs,h1,h2,h3,h4,h5⟩:=h
 exact ⟨b,cap,zs,h1,h2,h3,h4.keep k,PfsC.keep k l zs h5⟩
theorem pfDs_len (t : Pf) : t.ds.length = 8:=Pf.ds_length t
theorem uF : ∀ l : List Pf,(cX l).length = l.length * 8
 | []=>by simp [cX]
 | p :: ps=>by rw [cX,List.length_append,pfDs_len,uF ps,List.length_cons];omega
mutual
theorem PfL.cells {W : World} : ∀ (t : Pf) (cs : List Value),PfL W t cs → aP W t.ds cs
 | .mk r f lb ps ms,cs,h=>by
  rw [PfL] at h
  obtain ⟨a,u,q,b,cap,zs,rfl,⟨k1,k2,k3⟩,h2,h3,h4,h5⟩:=h
  rw [Pf.ds]
  refine aP.cons rfl ?_
  obtain ⟨o,n,ts,sub⟩:=f
  rw [Fm.ds]
  exact aP.cons rfl (aP.cons rfl (aP.cons k1.at (aP.cons k2.at (aP.cons rfl (aP.cons (rN (PfsC.cells ps zs h5) h4 (uF ps) (by omega) h3) (aP.cons k3.at (aP.nil _)))))))
theorem PfsC.cells {W : World} : ∀ (l : List Pf) (ys : List Value),PfsC W l ys → aP W (cX l) ys
 | [],ys,h=>by rw [PfsC] at h;subst h;exact aP.nil _
 | t :: ts,ys,h=>by
  rw [PfsC] at h
  obtain ⟨c,r,rfl,h1,h2⟩:=h
  exact (PfL.cells t c h1).append (PfsC.cells ts r h2)
end
theorem jR.at {W : World} {l : List Pf} {u : Value} (h : jR W l u) : gD W l u:=by
 obtain ⟨b,cap,zs,rfl,h2,h3,h4,h5⟩:=h
 exact rN (PfsC.cells l zs h5) h4 (uF l) (by omega) h3
theorem PfL.len {W : World} {t : Pf} {cs : List Value} (h : PfL W t cs) : cs.length = 8:=by rw [rV] at h;obtain ⟨a,u,q,s,rfl,_⟩:=h;rfl
theorem PfsC.len {W : World} : ∀ {l : List Pf} {ys : List Value},PfsC W l ys → ys.length = l.length * 8
 | [],ys,h=>by rw [PfsC] at h;subst h;rfl
 | t :: ts,ys,h=>by
  rw [PfsC] at h
  obtain ⟨c,r,rfl,h1,h2⟩:=h
  simp only [List.length_append,h1.len,PfsC.len h2,List.length_cons];omega
theorem PfsC.put {W : World} : ∀ {l : List Pf} {ys : List Value} {t : Pf} {c : List Value},PfsC W l ys → PfL W t c → PfsC W (l ++ [t]) (ys ++ c)
 | [],ys,t,c,h,h'=>by rw [PfsC] at h;subst h;rw [List.nil_append,PfsC];exact ⟨c,[],by simp,h',by rw [PfsC]⟩
 | x :: l,ys,t,c,h,h'=>by
  rw [PfsC] at h
  obtain ⟨d,r,rfl,h1,h2⟩:=h
  rw [List.cons_append,PfsC]
  exact ⟨d,r ++ c,by simp,h1,PfsC.put h2 h'⟩
theorem PfsC.get {W : World} : ∀ {l : List Pf} {ys : List Value} {j : Nat} {t : Pf},PfsC W l ys → l[j]? = some t → ∃ c,PfL W t c ∧ ∀ i,i < 8 → ys[j * 8 + i]? = c[i]?
 | [],ys,j,t,h,e=>by simp at e
 | x :: l,ys,0,t,h,e=>by
  rw [PfsC] at h
  obtain ⟨d,r,rfl,h1,h2⟩:=h
  simp at e;subst e
  have hd:=h1.len
  exact ⟨d,h1,fun i hi=>by rw [List.getElem?_append_left (by omega)];congr 1;omega⟩
 | x :: l,ys,j + 1,t,h,e=>by
  rw [PfsC] at h
  obtain ⟨d,r,rfl,h1,h2⟩:=h
  obtain ⟨c,h3,h4⟩:=PfsC.get (j:=j) h2 (by simpa using e)
  have hd:=h1.len
  refine ⟨c,h3,fun i hi=>?_⟩
  rw [List.getElem?_append_right (by omega),hd,show (j + 1) * 8 + i - 8 = j * 8 + i by omega]
  exact h4 i hi
theorem pfMark_len (i : Nat) : (jL i).length = 8:=rfl
theorem pfMarks_get {i j : Nat} (h : i < 12) (hj : j < 8) : (marksOf jL 12)[i * 8 + j]? = (jL i)[j]?:=pE jL 8 pfMark_len 12 i j h hj
open Go Go.RowKit Ly
set_option maxHeartbeats 1600000
structure jA (w : World) (l : List Fm) (g k j i : Nat) (W : World) : Prop where
 own : ∃ xs,W.ownsRow g 25 4 (.slice (some ⟨g,0,none⟩) (j + i) (k + 12)) (j + i) (xs ++ fU i) ∧ FmsC (hide (fun n=>decide (n < g + 1)) W) (l.take j) xs
 bw : Below w.heap.size w W
 lt : g < W.heap.size
 ge : w.heap.size ≤ g
theorem jA.moved {w : World} {l : List Fm} {g k j i : Nat} {W W' : World} (h : jA w l g k j i W) (b : Below W.heap.size W W') : jA w l g k j i W':=by
 obtain ⟨⟨xs,h1,h2⟩,h3,h4,h5⟩:=h
 exact ⟨⟨xs,mV h1 (b.block g h4),FmsC.keep (bK fun k h _=>b.block k h) _ _ h2⟩,aB h3 b,Nat.lt_of_lt_of_le h4 b.size,h5⟩
theorem jA.put {w : World} {l : List Fm} {g k j : Nat} {W W' : World} {T : Fm} {c xs : List Value} (h2 : FmsC (hide (fun n=>decide (n < g + 1)) W) (l.take j) xs) (h3 : Below w.heap.size w W) (h4 : g < W.heap.size) (h5 : w.heap.size ≤ g) (hT : l[j]? = some T) (hc : FmL (hide (fun n=>decide (n < g + 1)) W) T c)
  (ho : W'.ownsRow g 25 4 (.slice (some ⟨g,0,none⟩) (j + 1) (k + 12)) (j + 1) (xs ++ c)) (hg : W.grownBy W' (some g)) : jA w l g k (j + 1) 0 W':=by
 have K : aR (hide (fun n=>decide (n < g + 1)) W) (hide (fun n=>decide (n < g + 1)) W'):=bK fun k h h'=>hg.block k h (by simp;omega)
 refine ⟨⟨xs ++ c,by simpa [fU] using ho, ?_⟩,h3.trans (below_grown hg (fun x e=>by cases e;exact h5) (Nat.le_trans h5 (Nat.le_of_lt h4))),Nat.lt_of_lt_of_le h4 hg.size,h5⟩
 have e : l.take (j + 1) = l.take j ++ [T]:=by rw [List.take_add_one,hT];rfl
 rw [e]
 exact FmsC.put (FmsC.keep K _ _ h2) (FmL.keep K _ _ hc)
theorem jA.mark {w : World} {l : List Fm} {g k i : Nat} {W W' : World} {xs : List Value} (h2 : FmsC (hide (fun n=>decide (n < g + 1)) W) (l.take k) xs) (h3 : Below w.heap.size w W) (h4 : g < W.heap.size) (h5 : w.heap.size ≤ g)
  (ho : W'.ownsRow g 25 4 (.slice (some ⟨g,0,none⟩) (k + i + 1) (k + 12)) (k + i + 1) (xs ++ fU i ++ [.int .u8 0,str (bD i),.slice none 0 0,.slice none 0 0])) (hg : W.grownBy W' (some g)) : jA w l g k k (i + 1) W':=by
 have K : aR (hide (fun n=>decide (n < g + 1)) W) (hide (fun n=>decide (n < g + 1)) W'):=bK fun k h h'=>hg.block k h (by simp;omega)
 refine ⟨⟨xs, ?_,FmsC.keep K _ _ h2⟩,h3.trans (below_grown hg (fun x e=>by cases e;exact h5) (Nat.le_trans h5 (Nat.le_of_lt h4))),Nat.lt_of_lt_of_le h4 hg.size,h5⟩
 rw [fmMarks_succ,← List.append_assoc]
 exact ho
theorem jA.lent {w : World} {l : List Fm} {g k : Nat} {W : World} (h : jA w l g k k 12 W) (hk : k = l.length) (hm : k + 12 ≤ maxLen) : eW (hide (lo w) W) l (.slice (some ⟨g,0,none⟩) k (k + 12)):=by
 obtain ⟨⟨xs,h1,h2⟩,h3,h4,h5⟩:=h
 rw [List.take_of_length_le (by omega)] at h2
 subst hk
 refine ⟨g,_,xs,rfl,Nat.le_refl _,hm, ?_, ?_⟩
 ·intro j u hu
  have:=h1.cells (g:=g) rfl j u hu
  rw [show ((⟨g,0,none⟩ : Addr).add j) = ⟨g,j,none⟩ by simp [Addr.add];omega] at this
  rw [eZ (by simp [lo];omega)]
  exact this
 ·exact FmsC.keep (aV fun k h6 h7=>⟨by simp at h7;simp [lo];omega,rfl⟩) _ _ h2
theorem jA.new {w w1 : World} {l : List Fm} {k : Nat} (h : w1.ownsRow w.heap.size 25 4 (.slice (some ⟨w.heap.size,0,none⟩) 0 (k + 12)) 0 []) (hg : w.grownBy w1 none) : jA w l w.heap.size k 0 0 w1 :=
 ⟨⟨[],by simpa [fU] using h,by rw [List.take_zero,FmsC]⟩,below_grown hg (fun _ e=>by cases e) (Nat.le_refl _),(h.lt _ rfl).2,Nat.le_refl _⟩
theorem jA.first {w W : World} {l : List Fm} {g k j : Nat} (h : jA w l g k j 0 W) : ∃ xs,W.ownsRow g 25 4 (.slice (some ⟨g,0,none⟩) j (k + 12)) j xs ∧ FmsC (hide (fun n=>decide (n < g + 1)) W) (l.take j) xs:=by
 obtain ⟨xs,h1,h2⟩:=h.own
 exact ⟨xs,by simpa [fU] using h1,h2⟩
theorem LD (w : World) (a b c d : Value) (t : TypeId) : ∀ (j : Nat) (u : Value),[a,b,c,d][j]? = some u → (w.alloc (.cells #[a,b,c,d] t)).cell? ((⟨w.heap.size,0,none⟩ : Addr).add j) = some u:=by
 intro j u hu
 have hg:=heap_alloc_new w (.cells #[a,b,c,d] t)
 rw [show ((⟨w.heap.size,0,none⟩ : Addr).add j) = ⟨w.heap.size,j,none⟩ by simp [Addr.add];omega,box_cell hg]
 simpa using hu
theorem news4' (w : World) (o : Obj) (a b c d : Value) (t : TypeId) : ∀ (j : Nat) (u : Value),[a,b,c,d][j]? = some u → ((w.alloc o).alloc (.cells #[a,b,c,d] t)).cell? ((⟨w.heap.size + 1,0,none⟩ : Addr).add j) = some u:=by
 have:=LD (w.alloc o) a b c d t
 rwa [World.size_alloc] at this
theorem ND (v : Int) (n : Bs) (u u' : Value) (hu : u.oneCell' = true) (hu' : u'.oneCell' = true) : ∀ x ∈ [Value.int .u8 v,str n,u,u'],x.oneCell' = true:=by
 intro x hx
 simp only [List.mem_cons,List.not_mem_nil,or_false] at hx
 rcases hx with rfl | rfl | rfl | rfl
 ·rfl
 ·rfl
 ·exact hu
 ·exact hu'
theorem nI : ∀ l : List Fm,l.length ≤ aK l
 | []=>Nat.le_refl _
 | t :: ts=>by have:=nI ts;cases t;rw [aK,Fm.nodes,List.length_cons];omega
theorem sG {l : List Fm} {t : Fm} (h : t ∈ l) : t.nodes ≤ aK l:=by
 induction l with
 | nil=>cases h
 | cons x l ih =>
  rw [aK]
  rcases List.mem_cons.1 h with rfl | h
  ·omega
  ·have:=ih h;omega
def LfS (l : List Fm) : Prop:=∀ (w : World) (a : Option Addr) (k c : Nat),cD w l (.slice a k c) → aK l ≤ 1000 → Calls Tryz.prog 127 #[.slice a k c] w fun e w'=>∃ b cap,e = .returned (.slice (some ⟨b,0,none⟩) k cap) ∧ eW (hide (lo w) w') l (.slice (some ⟨b,0,none⟩) k cap) ∧ Below w.heap.size w w'
def LfT (t : Fm) : Prop:=∀ (w : World) (x : Value),bV w t x → t.nodes ≤ 1000 → Calls Tryz.prog 50 #[x] w fun e w'=>∃ b n cap b' n' cap',e = .returned (.agg #[.int .u8 t.op,str t.name,.slice (some ⟨b,0,none⟩) n cap,.slice (some ⟨b',0,none⟩) n' cap']) ∧ dJ (hide (lo w) w') t.args (.slice (some ⟨b,0,none⟩) n cap) ∧ eW (hide (lo w) w') t.sub (.slice (some ⟨b',0,none⟩) n' cap') ∧ Below w.heap.size w w'
theorem lf_of (t : Fm) (h : LfS t.sub) : LfT t:=by
 intro w x hx hn
 obtain ⟨a,k,c,a',m,d,rfl,hx,hx'⟩:=hx
 have hna : aD t.args ≤ 1000 ∧ aK t.sub ≤ 1000:=by cases t;rw [Fm.nodes] at hn;simp only [Fm.args,Fm.sub];omega
 have K2:=iJ w (.cells #[.int .u8 t.op,str t.name,.slice a k c,.slice a' m d] 25) (.cells #[.int .u8 0,str [],.slice none 0 0,.slice none 0 0] 25)
 have HB : Hid (Below w.heap.size w ((w.alloc (.cells #[.int .u8 t.op,str t.name,.slice a k c,.slice a' m d] 25)).alloc (.cells #[.int .u8 0,str [],.slice none 0 0,.slice none 0 0] 25))):=bnew.alloc (by simp) _
 have R:=Hd (lentTerms_c t.args ((w.alloc (.cells #[.int .u8 t.op,str t.name,.slice a k c,.slice a' m d] 25)).alloc (.cells #[.int .u8 0,str [],.slice none 0 0,.slice none 0 0] 25)) a k c (hx.keep K2) hna.1)
 have R2 : Hid (∀ W,cD W t.sub (.slice a' m d) → Calls Tryz.prog 127 #[.slice a' m d] W fun e w'=>∃ b cap,e = .returned (.slice (some ⟨b,0,none⟩) m cap) ∧ eW (hide (lo W) w') t.sub (.slice (some ⟨b,0,none⟩) m cap) ∧ Below W.heap.size W w'):=fun W hW=>h W a' m d hW hna.2
 have HX2:=Hd hx'
 have G0 : Hid (((w.alloc (.cells #[.int .u8 t.op,str t.name,.slice a k c,.slice a' m d] 25)).alloc (.cells #[.int .u8 0,str [],.slice none 0 0,.slice none 0 0] 25)).heap[w.heap.size]? = some (.cells #[.int .u8 t.op,str t.name,.slice a k c,.slice a' m d] 25 (0,0))):=kc bnew (heap_alloc_new w _)
 have G1 : Hid (((w.alloc (.cells #[.int .u8 t.op,str t.name,.slice a k c,.slice a' m d] 25)).alloc (.cells #[.int .u8 0,str [],.slice none 0 0,.slice none 0 0] 25)).heap[w.heap.size + 1]? = some (.cells #[.int .u8 0,str [],.slice none 0 0,.slice none 0 0] 25 (0,0))):=by
  have:=heap_alloc_new (w.alloc (.cells #[.int .u8 t.op,str t.name,.slice a k c,.slice a' m d] 25)) (.cells #[.int .u8 0,str [],.slice none 0 0,.slice none 0 0] 25)
  rwa [World.size_alloc] at this
 clear h hx hx' hn hna K2
 go_enter Tryz.func50,Tryz.ntmps50
 go_wp2_with (first
  | (go_at_call 126;refine R.out.mono ?_;rintro e w1 ⟨b,cap,rfl,hl,b1⟩;have HL:=Hd (And.intro hl b1);have E0:=Hd (kc b1 G0.out);have E1:=Hd (kc b1 G1.out);have S0:=Hd (aC (o:=2) (u:=.slice (some ⟨b,0,none⟩) k cap) E0.out);have S1 : Hid ((w1.setCell ⟨w.heap.size,2,none⟩ (.slice (some ⟨b,0,none⟩) k cap)).heap[w.heap.size + 1]? = _):=(Below.heap_setCell _ _ _ _ (by simp)).trans E1.out;clear hl b1;obtain ⟨c0,c1,c2,c3,f0,f1,f2,f3⟩:=row25' E0.out;obtain ⟨d0,d1,d2,d3,h0,h1,h2,h3⟩:=row25' E1.out)
  | (go_at_call 127;refine (R2.out _ (HX2.out.keep (aA ((aB HB.out HL.out.2).setCell (by simp) _)))).mono ?_;rintro e w2 ⟨b',cap',rfl,hl,b2⟩;have HL2:=Hd (And.intro hl b2);have E20:=Hd (kc b2 S0.out);have E21:=Hd (kc b2 S1.out);clear hl b2;clear c0 c1 c2 c3 f0 f1 f2 f3 d0 d1 d2 d3 h0 h1 h2 h3;obtain ⟨c0,c1,c2,c3,f0,f1,f2,f3⟩:=row25' E20.out;obtain ⟨d0,d1,d2,d3,h0,h1,h2,h3⟩:=row25' E21.out))
 obtain ⟨hl,b1⟩:=HL.out
 obtain ⟨hl2,b2⟩:=HL2.out
 have B1 : Below w.heap.size w w1:=iT b1
 have B1' : Below w.heap.size w (w1.setCell ⟨w.heap.size,2,none⟩ (.slice (some ⟨b,0,none⟩) k cap)):=B1.setCell (by simp) _
 have B2 : Below w.heap.size w w2:=aB B1' b2
 have sz1:=b1.size
 have sz2:=b2.size
 simp only [World.size_alloc] at sz1
 have g0 : (w2.setCell ⟨w.heap.size,3,none⟩ (.slice (some ⟨b',0,none⟩) m cap')).heap[w.heap.size + 1]? = some (.cells #[.int .u8 0,str [],.slice none 0 0,.slice none 0 0] 25 (0,0)):=(Below.heap_setCell _ _ _ _ (by simp)).trans E21.out
 have g1:=aC (o:=0) (u:=.int .u8 t.op) g0
 have g2:=aC (o:=1) (u:=str t.name) g1
 have g3:=aC (o:=2) (u:=.slice (some ⟨b,0,none⟩) k cap) g2
 have g4:=aC (o:=3) (u:=.slice (some ⟨b',0,none⟩) m cap') g3
 have E : ∀ i,i ≠ w.heap.size → i ≠ w.heap.size + 1 → (((((w2.setCell ⟨w.heap.size,3,none⟩ (.slice (some ⟨b',0,none⟩) m cap')).setCell ⟨w.heap.size + 1,0,none⟩ (.int .u8 t.op)).setCell ⟨w.heap.size + 1,1,none⟩ (str t.name)).setCell ⟨w.heap.size + 1,2,none⟩ (.slice (some ⟨b,0,none⟩) k cap)).setCell ⟨w.heap.size + 1,3,none⟩ (.slice (some ⟨b',0,none⟩) m cap')).heap[i]? = w2.heap[i]?:=fun i h h'=>by
  rw [Below.heap_setCell _ _ _ _ h',Below.heap_setCell _ _ _ _ h',Below.heap_setCell _ _ _ _ h',Below.heap_setCell _ _ _ _ h',Below.heap_setCell _ _ _ _ h]
 refine bodyPost_ret (jF rfl _ _ (w.heap.size + 1) _ _ _ _ (0,0) rfl g4) rfl ?_
 refine ⟨b,k,cap,b',m,cap',rfl,dJ.keep hl (aV fun i h1 h2=>?_),eW.keep hl2 (aV fun i h1 h2=>?_),((((B2.setCell (by simp) _).setCell (by simp) _).setCell (by simp) _).setCell (by simp) _).setCell (by simp) _⟩
 ·simp only [lo,World.size_alloc,decide_eq_false_iff_not,Nat.not_lt] at h2 ⊢
  refine ⟨by omega, ?_⟩
  rw [E i (by omega) (by omega),b2.block i (by simpa [World.setCell] using h1)]
  exact Below.heap_setCell _ _ _ _ (by simp;omega)
 ·simp only [lo,decide_eq_false_iff_not,Nat.not_lt] at h2 ⊢
  have : w.heap.size + 2 ≤ i:=by simp [World.setCell] at h2;omega
  exact ⟨by omega,E i (by omega) (by omega)⟩
theorem lfs_step (l : List Fm) (hh : ∀ t ∈ l,LfT t) : LfS l:=by
 intro w a k c hx hn
 have hk:=hx.len
 have hlen : k ≤ 1000:=by have:=nI l;omega
 have L1:=Hd hk.1
 have H:=Hd hh
 have HX:=Hd hx
 have HN : Hid (∀ t ∈ l,t.nodes ≤ 1000):=fun t ht=>Nat.le_trans (sG ht) hn
 obtain ⟨i0,hi0,hz0,hs0,hb0⟩:=info_parts info25
 clear hk hh hx hn
 go_enter Tryz.func127,Tryz.ntmps127
 go_wp2_with (at_make;refine wpList_make_own _ rfl _ _ 23 rfl w.heap.size 25 i0 (.agg #[.int .u8 0,.string ⟨#[]⟩,.slice none 0 0,.slice none 0 0]) 4 Tryz.underlying23 hi0 hz0 hs0 _ _ _ (k + 12) rfl rfl (by first | rfl | omega) (by rw [hb0];omega) (by unfold maxLen;omega) (Nat.le_refl _) ?_;intro w1 hown1 hgrow1)
 go_loopw [3,4] (fun u i wr=>∃ j : Nat,j ≤ k ∧ i = .int .i64 j ∧ u = .slice (some ⟨w.heap.size,0,none⟩) j (k + 12) ∧ Hid (jA w l w.heap.size k j 0 wr)) (fun _ i _=>k - (intOf i).toNat)
 case atStart=>exact ⟨0,Nat.zero_le _,rfl,rfl,jA.new hown1 hgrow1⟩
 case round =>
  clear hown1 hgrow1
  obtain ⟨j,hj,rfl,rfl,hs⟩:=hrel
  by_cases hlt : j < k
  ·obtain ⟨T,hT⟩:=aF (l:=l) (j:=j) (by rw [← L1.out];exact hlt)
   obtain ⟨bb,off,rfl,hc⟩:=HX.out.get (aJ hT)
   obtain ⟨y0,y1,y2,y3,y4,y5,hy⟩:=hc j _ hT
   have hK:=aA hs.out.bw
   have c0:=hK _ _ hy.c0;have c1:=hK _ _ hy.c1;have c2:=hK _ _ hy.c2;have c3:=hK _ _ hy.c3
   have X : Hid (bV wr T (.agg #[.int .u8 T.op,str T.name,.slice y0 y1 y2,.slice y3 y4 y5])):=⟨_,_,_,_,_,_,rfl,hy.at_.keep hK,hy.at'.keep hK⟩
   have HT:=Hd hT
   clear hc hy hT hK
   go_wp2_with (first
    | (go_at_call 50;refine (H.out T (List.mem_of_getElem? HT.out) _ _ X.out (HN.out T (List.mem_of_getElem? HT.out))).mono ?_;rintro e w3 ⟨b,n,cap,b',n',cap',rfl,hl1,hl2,b3⟩;have hl:=And.intro hl1 hl2;clear hl1 hl2;obtain ⟨xs,o3,t3⟩:=(hs.out.moved b3).first;have OW:=Hd o3;have TC:=Hd t3;have HL:=Hd (And.intro hl b3);clear hl b3 o3 t3)
    | (at_builtin;refine wpList_append_fits _ rfl _ _ 23 rfl w.heap.size 25 i0 4 Tryz.underlying23 hi0 hs0 w.heap.size j (k + 12) _ rfl ((OW.out.alloc _).alloc _) ⟨w3.heap.size + 1,0,none⟩ 1 1 [.int .u8 T.op,str T.name,.slice (some ⟨b,0,none⟩) n cap,.slice (some ⟨b',0,none⟩) n' cap'] rfl rfl (news4' _ _ _ _ _ _ _) (ND _ _ _ _ rfl rfl) (by omega) ?_;intro w4 hown4 hgrow4))
   go_roundw
   case rel =>
    refine ⟨j + 1,by omega,by go_num,rfl, ?_⟩
    obtain ⟨hl,b3⟩:=HL.out
    have LR:=hs.out.moved b3
    have bA : ∀ o o',Below w3.heap.size w3 ((w3.alloc o).alloc o'):=fun o o'=>bnew.alloc (by simp) _
    have e1:=LR.lt
    have e2:=LR.ge
    have e3:=hs.out.lt
    exact jA.put (FmsC.keep (bK fun i h _=>(bA _ _).block i h) _ _ TC.out) (aB LR.bw (bA _ _)) (by simp;omega) e2 HT.out
     (CR.2 ⟨_,_,rfl,dJ.keep hl.1 (aV fun i h1 h2=>by simp only [lo,decide_eq_false_iff_not,Nat.not_lt] at h2 ⊢;exact ⟨by omega,(bA _ _).block i h1⟩),eW.keep hl.2 (aV fun i h1 h2=>by simp only [lo,decide_eq_false_iff_not,Nat.not_lt] at h2 ⊢;exact ⟨by omega,(bA _ _).block i h1⟩)⟩) hown4 hgrow4
   case measure=>simp [intOf];omega
  ·have hjk : j = k:=by omega
   have LR:=Hd hs.out
   subst hjk
   clear hs H HX HN
   go_wp2_with fail
   go_loopw [3,6] (fun u i wr=>∃ p : Nat,p ≤ 12 ∧ i = .int .i64 p ∧ u = .slice (some ⟨w.heap.size,0,none⟩) (j + p) (j + 12) ∧ Hid (jA w l w.heap.size j j p wr)) (fun _ i _=>12 - (intOf i).toNat)
   case atStart=>exact ⟨0,by omega,rfl,rfl,LR.out⟩
   case round =>
    clear LR
    obtain ⟨p,hp,rfl,rfl,hs⟩:=hrel
    by_cases hlt : p < 12
    ·go_wp2_with (first
      | (go_at_call 207;refine (xT p hlt _).mono ?_;rintro e w3 ⟨rfl,b3⟩;obtain ⟨xs,o3,t3⟩:=(hs.out.moved b3).own;have OW:=Hd o3;have TC:=Hd t3;have B3:=Hd b3;clear b3 o3 t3)
      | (at_builtin;refine wpList_append_fits _ rfl _ _ 23 rfl w.heap.size 25 i0 4 Tryz.underlying23 hi0 hs0 w.heap.size (j + p) (j + 12) _ rfl (OW.out.alloc _) ⟨w3.heap.size,0,none⟩ 1 1 [.int .u8 0,str (bD p),.slice none 0 0,.slice none 0 0] rfl rfl (LD _ _ _ _ _ _) (ND _ _ _ _ rfl rfl) (by omega) ?_;intro w4 hown4 hgrow4))
     go_roundw
     case rel =>
      refine ⟨p + 1,by omega,by go_num,rfl, ?_⟩
      have LR:=hs.out.moved B3.out
      have bA : ∀ o,Below w3.heap.size w3 (w3.alloc o):=fun o=>bnew
      have e1:=LR.lt
      have e2:=LR.ge
      exact jA.mark (FmsC.keep (bK fun i h _=>(bA _).block i h) _ _ TC.out) (aB LR.bw (bA _)) (by simp;omega) e2 hown4 hgrow4
     case measure=>simp [intOf];omega
    ·have hp12 : p = 12:=by omega
     subst hp12
     have LE:=Hd (hs.out.lent L1.out (by unfold maxLen;omega))
     have LB:=Hd hs.out.bw
     clear hs
     go_wp2_with fail
     go_ret
     exact ⟨_,_,rfl,LE.out,LB.out⟩
mutual
theorem xN : ∀ t : Fm,LfT t
 | .mk o n ts fs=>lf_of _ (lfs_step fs (qO fs))
theorem qO : ∀ l : List Fm,∀ t ∈ l,LfT t
 | [],_,h=>by cases h
 | x :: xs,t,h=>by
  rcases List.mem_cons.1 h with e | e
  ·rw [e];exact xN x
  ·exact qO xs t e
end
end Go.Proofs.YtcandidgaegghaaGreatDoor
