/- finite.signature: the names of a model. Conditions: at most a thousand facts, functions and binds. -/
import Derived.Test.YtcandidgaegghaaGreatDoorCpZ
import Derived.Test.YtcandidgaegghaaGreatDoorMdTZ
import Derived.Test.YtcandidgaegghaaGreatDoorMdVZ
set_option maxRecDepth 10000
set_option linter.unusedSimpArgs false
set_option linter.unusedVariables false
namespace Go.Proofs.YtcandidgaegghaaGreatDoor
open Go Go.RowKit Go.Sort Ly
set_option maxHeartbeats 4000000
theorem news2' (w : World) (o : Obj) (a b : Value) {t : TypeId} : ∀ (j : Nat) (u : Value),[a,b][j]? = some u → ((w.alloc o).alloc (.cells #[a,b] t)).cell? ((⟨w.heap.size + 1,0,none⟩ : Addr).add j) = some u:=by
 intro j u hu
 have:=yH (w.alloc o) a b (t:=t) j u hu
 rwa [World.size_alloc] at this
theorem news1' (w : World) (o : Obj) (a : Value) {t : TypeId} : ∀ (j : Nat) (u : Value),[a][j]? = some u → ((w.alloc o).alloc (.cells #[a] t)).cell? ((⟨w.heap.size + 1,0,none⟩ : Addr).add j) = some u:=by
 intro j u hu
 have:=rZ (w.alloc o) a (t:=t) j u hu
 rwa [World.size_alloc] at this
theorem bN {base size n : Nat} {w : World} {e : TypeId} {v : Value} {xs : List Value} (ho : w.ownsRow base e size v n xs) : ∃ a c,v = .slice a n c:=by
 rcases ho.2 with ⟨rfl,rfl⟩ | ⟨g,cap,cur,rfl,-⟩
 ·exact ⟨_,_,rfl⟩
 ·exact ⟨_,_,rfl⟩
theorem jE {W : World} {B e k n : Nat} {v : Value} {xs : List Value} (h : W.ownsRow B e k v n xs) : aM (hide (fun i=>decide (i < B)) W) k xs n v:=by
 have h0:=h
 obtain ⟨h1,h2⟩:=h
 rcases h2 with ⟨rfl,rfl⟩ | ⟨g,cap,cur,rfl,hb,hg,hc,hm,hs,ht⟩
 ·exact ⟨_,_,rfl,Nat.le_refl _,Nat.zero_le _,h1,.inl rfl⟩
 ·refine ⟨_,_,rfl,hc,hm,h1,.inr ⟨g,0,rfl,fun j u hu=>?_⟩⟩
  have:=h0.cells (g:=g) rfl j u hu
  rw [show ((⟨g,0,none⟩ : Addr).add j) = ⟨g,j,none⟩ by simp [Addr.add];omega] at this
  rw [iB (by simp;omega),Nat.zero_add]
  exact this
theorem iK {W : World} {B e k n g o : Nat} {v u : Value} {xs : List Value} (h : W.ownsRow B e k v n xs) (hg : g < B) : (W.setCell ⟨g,o,none⟩ u).ownsRow B e k v n xs:=by
 obtain ⟨h1,h2⟩:=h
 refine ⟨h1,h2.imp id ?_⟩
 rintro ⟨g',cap,cur,e1,e2,e3,e4⟩
 exact ⟨g',cap,cur,e1,e2,by rw [Below.heap_setCell _ _ _ _ (by simp;omega)];exact e3,e4⟩
theorem kZ {W : World} {B B' e k n : Nat} {v : Value} {xs : List Value} (h : W.ownsRow B e k v n xs) (hB : B' ≤ B) : W.ownsRow B' e k v n xs:=by
 obtain ⟨h1,h2⟩:=h
 refine ⟨h1,h2.imp id ?_⟩
 rintro ⟨g',cap,cur,e1,e2,e3,e4⟩
 exact ⟨g',cap,cur,e1,Nat.le_trans hB e2,e3,e4⟩
structure Sg (w : World) (t : Nat) (mo ro : Obj) (A : World) (p q v : Value) (W : World) : Prop where
 bw : Below w.heap.size w W
 mod : W.heap[w.heap.size]? = some mo
 res : W.heap[w.heap.size + 1]? = some ro
 sig : W.heap[w.heap.size + 2]? = some (.cells #[p,q,v] t (0,0))
 past : Past (w.heap.size + 3) A W
theorem Sg.size {w A W : World} {t : Nat} {mo ro : Obj} {p q v : Value} (h : Sg w t mo ro A p q v W) : w.heap.size + 2 < W.heap.size:=(Array.getElem?_eq_some_iff.1 h.sig).1
theorem Sg.moved {w A W W' : World} {t : Nat} {mo ro : Obj} {p q v : Value} (h : Sg w t mo ro A p q v W) (b : Below W.heap.size W W') : Sg w t mo ro A p q v W' :=
 ⟨aA h.bw b,kc b h.mod,kc b h.res,kc b h.sig,h.past.below b⟩
theorem Sg.again {w A W : World} {t : Nat} {mo ro : Obj} {p q v : Value} (h : Sg w t mo ro A p q v W) : Sg w t mo ro W p q v W:=⟨h.bw,h.mod,h.res,h.sig,Past.refl _ _⟩
theorem Sg.grown {w A W W' : World} {t : Nat} {mo ro : Obj} {p q v : Value} {row : Option Nat} (h : Sg w t mo ro A p q v W) (hA : w.heap.size + 3 ≤ A.heap.size) (hg : W.grownBy W' row) (hr : ∀ g,row = some g → A.heap.size ≤ g) : Sg w t mo ro A p q v W':=by
 have sz:=h.size
 refine ⟨h.bw.grown hg (by omega) (fun k hk=>by have:=hr k hk;omega), ?_, ?_, ?_,⟨Nat.le_trans h.past.1 hg.size,fun i h1 h2=>?_⟩⟩
 ·exact (hg.block _ (by omega) (fun e=>by have:=hr _ e.symm;omega)).trans h.mod
 ·exact (hg.block _ (by omega) (fun e=>by have:=hr _ e.symm;omega)).trans h.res
 ·exact (hg.block _ (by omega) (fun e=>by have:=hr _ e.symm;omega)).trans h.sig
 ·exact (hg.block _ (Nat.lt_of_lt_of_le h2 h.past.1) (fun e=>by have:=hr _ e.symm;omega)).trans (h.past.2 i h1 h2)
theorem Sg.put {w A W : World} {t : Nat} {mo ro : Obj} {p q v : Value} (h : Sg w t mo ro A p q v W) (o : Nat) (u : Value) {p' q' v' : Value} (e : (#[p,q,v] : Array Value).setIfInBounds o u = #[p',q',v']) : Sg w t mo ro A p' q' v' (W.setCell ⟨w.heap.size + 2,o,none⟩ u):=by
 refine ⟨h.bw.setCell (by simp) _, ?_, ?_, ?_,h.past.set (by omega) _⟩
 ·rw [Below.heap_setCell _ _ _ _ (by simp)];exact h.mod
 ·rw [Below.heap_setCell _ _ _ _ (by simp)];exact h.res
 ·have:=aQ (o:=o) (u:=u) h.sig
  rw [e] at this;exact this
theorem eN {w : World} {b t : Nat} {x0 x1 x2 : Value} (h : w.heap[b]? = some (.cells #[x0,x1,x2] t (0,0))) :
  w.cell? ⟨b,0,none⟩ = some x0 ∧ w.cell? ⟨b,1,none⟩ = some x1 ∧ w.cell? ⟨b,2,none⟩ = some x2 ∧ w.frozen? ⟨b,0,none⟩ = false ∧ w.frozen? ⟨b,1,none⟩ = false ∧ w.frozen? ⟨b,2,none⟩ = false :=
 ⟨(aJ h 0).trans rfl,(aJ h 1).trans rfl,(aJ h 2).trans rfl,by simp [World.frozen?,h],by simp [World.frozen?,h],by simp [World.frozen?,h]⟩
theorem oT {α : Type} {l : List α} {j : Nat} {x : α} (f : α → Bi) (h : l[j]? = some x) : bisV ((l.take (j + 1)).map f) = bisV ((l.take j).map f) ++ biV (f x):=by
 rw [List.take_add_one,h]
 simp [bisV,List.flatMap_append]
theorem info360 : (Tryz.prog.info? 360).map (fun i=>(i.zero,i.size,i.bytes)) = some (some (.agg #[.string ⟨#[]⟩,.int .i64 0]),2,24):=by kernel_rfl
theorem info308 : (Tryz.prog.info? 308).map (fun i=>(i.zero,i.size,i.bytes)) = some (some (.agg #[.string ⟨#[]⟩,.int .i64 0]),2,24):=by kernel_rfl
theorem i358 : (Tryz.prog.info? 358).map (·.size) = some 3:=by kernel_rfl
theorem i257 : (Tryz.prog.info? 257).map (·.size) = some 3:=by kernel_rfl
theorem u358 : ∃ fs,Tryz.prog.underlying 358 = some (.struct fs):=⟨_,Tryz.underlying358⟩
theorem u257 : ∃ fs,Tryz.prog.underlying 257 = some (.struct fs):=⟨_,Tryz.underlying257⟩
theorem res358 {fn : Func} {p : Tmp} (h : fn.results = #[.cell p 358]) (tmps : Array Value) (w : World) (g : Nat) (x0 x1 x2 : Value) (fr : Nat × Nat)
  (hp : tmps.getD p undef = one g) (hg : w.heap[g]? = some (.cells #[x0,x1,x2] 358 fr)) : (results fn tmps).run Tryz.prog w = .ok (.agg #[x0,x1,x2]) w:=by
 obtain ⟨fs,h1⟩:=u358
 exact results_cell_row h tmps w g 358 #[x0,x1,x2] fr _ hp hg h1 rfl i358
theorem res257 {fn : Func} {p : Tmp} (h : fn.results = #[.cell p 257]) (tmps : Array Value) (w : World) (g : Nat) (x0 x1 x2 : Value) (fr : Nat × Nat)
  (hp : tmps.getD p undef = one g) (hg : w.heap[g]? = some (.cells #[x0,x1,x2] 257 fr)) : (results fn tmps).run Tryz.prog w = .ok (.agg #[x0,x1,x2]) w:=by
 obtain ⟨fs,h1⟩:=u257
 exact results_cell_row h tmps w g 257 #[x0,x1,x2] fr _ hp hg h1 rfl i257
def mE (F : List Fa) (G : List Fu) (B : List Bi) (p q v : Value) (w' : World) : Prop:=aM w' 2 (bisV (symF F)) F.length p ∧ aM w' 2 (bisV (symG G)) G.length q ∧ aM w' 1 ((B.map Bi.name).map str) B.length v
theorem signature_c (F : List Fa) (G : List Fu) (B : List Bi) (hF : F.length ≤ 1000) (hG : G.length ≤ 1000) (hB : B.length ≤ 1000) (z lo : Int) (ra fa ga ba : Option Addr) (rn rc fn fc gn gc bn bc : Nat) (w : World) (hx : aM w 3 (fasV F) F.length (.slice fa fn fc)) (hg : fZ w G (.slice ga gn gc)) (hy : aM w 2 (bisV B) B.length (.slice ba bn bc)) :
  Calls Tryz.prog 354 #[mdK 2 z ra rn rc lo fa fn fc ga gn gc ba bn bc] w fun e w'=>∃ pa pc qa qc va vc,e = .returned (.agg #[.slice pa fn pc,.slice qa gn qc,.slice va bn vc]) ∧ mE F G B (.slice pa fn pc) (.slice qa gn qc) (.slice va bn vc) w' ∧ Below w.heap.size w w':=by
 have L1:=Hd hx.len.1
 have L2:=Hd hg.len.1
 have L3:=Hd hy.len.1
 have fk : fn ≤ 1000:=by have:=L1.out;omega
 have gk : gn ≤ 1000:=by have:=L2.out;omega
 have bk : bn ≤ 1000:=by have:=L3.out;omega
 have HX:=Hd hx
 have HG:=Hd hg
 have HY:=Hd hy
 obtain ⟨i0,hi0,hz0,hs0,hb0⟩:=info_parts info360
 obtain ⟨j0,hj0,hy0,ht0,hc0⟩:=info_parts fP
 have SG0 : Hid (Sg w 358 (mdR 2 z ra rn rc lo fa fn fc ga gn gc ba bn bc) (.cells #[.slice none 0 0,.slice none 0 0,.slice none 0 0] 358) (((w.alloc (mdR 2 z ra rn rc lo fa fn fc ga gn gc ba bn bc)).alloc (.cells #[.slice none 0 0,.slice none 0 0,.slice none 0 0] 358)).alloc (.cells #[.slice none 0 0,.slice none 0 0,.slice none 0 0] 358)) (.slice none 0 0) (.slice none 0 0) (.slice none 0 0)
   (((w.alloc (mdR 2 z ra rn rc lo fa fn fc ga gn gc ba bn bc)).alloc (.cells #[.slice none 0 0,.slice none 0 0,.slice none 0 0] 358)).alloc (.cells #[.slice none 0 0,.slice none 0 0,.slice none 0 0] 358))):=by
  have b1 : Below w.heap.size w (w.alloc (mdR 2 z ra rn rc lo fa fn fc ga gn gc ba bn bc)):=bnew
  have b2:=b1.alloc (o:=.cells #[.slice none 0 0,.slice none 0 0,.slice none 0 0] 358) (by simp)
  have b3:=b2.alloc (o:=.cells #[.slice none 0 0,.slice none 0 0,.slice none 0 0] 358) (by simp;omega)
  refine ⟨b3, ?_, ?_, ?_,Past.refl _ _⟩
  ·exact kc bnew (kc bnew (heap_alloc_new w _))
  ·have:=heap_alloc_new (w.alloc (mdR 2 z ra rn rc lo fa fn fc ga gn gc ba bn bc)) (.cells #[.slice none 0 0,.slice none 0 0,.slice none 0 0] 358)
   rw [World.size_alloc] at this
   exact kc bnew this
  ·have:=heap_alloc_new ((w.alloc (mdR 2 z ra rn rc lo fa fn fc ga gn gc ba bn bc)).alloc (.cells #[.slice none 0 0,.slice none 0 0,.slice none 0 0] 358)) (.cells #[.slice none 0 0,.slice none 0 0,.slice none 0 0] 358)
   rw [World.size_alloc,World.size_alloc] at this
   exact this
 have SZ0 : Hid (w.heap.size + 3 ≤ (((w.alloc (mdR 2 z ra rn rc lo fa fn fc ga gn gc ba bn bc)).alloc (.cells #[.slice none 0 0,.slice none 0 0,.slice none 0 0] 358)).alloc (.cells #[.slice none 0 0,.slice none 0 0,.slice none 0 0] 358)).heap.size):=by show _ ≤ _;simp
 clear hx hg hy
 go_enter Tryz.func354,Tryz.ntmps354
 obtain ⟨⟨d0,d1,d2,d3,d4,d5,d6⟩,-⟩:=aK SG0.out.mod
 go_wp2_with fail
 generalize hW : ((w.alloc (mdR 2 z ra rn rc lo fa fn fc ga gn gc ba bn bc)).alloc (.cells #[.slice none 0 0,.slice none 0 0,.slice none 0 0] 358)).alloc (.cells #[.slice none 0 0,.slice none 0 0,.slice none 0 0] 358) = w1 at *
 clear hW d0 d1 d2 d3 d4 d5 d6
 go_loopw [13] (fun i wr=>∃ j : Nat,j ≤ fn ∧ i = .int .i64 j ∧ Hid (∃ P,wr.ownsRow w1.heap.size 360 2 P j (bisV (symF (F.take j))) ∧ Sg w 358 (mdR 2 z ra rn rc lo fa fn fc ga gn gc ba bn bc) (.cells #[.slice none 0 0,.slice none 0 0,.slice none 0 0] 358) w1 P (.slice none 0 0) (.slice none 0 0) wr)) (fun i _=>fn - (intOf i).toNat)
 case atStart=>exact ⟨0,Nat.zero_le _,rfl,_,World.ownsRow_nil _ _ _ _,SG0.out⟩
 case round =>
  obtain ⟨j,hj,rfl,hs⟩:=hrel
  obtain ⟨P,hown,hsg⟩:=hs.out
  by_cases hlt : j < fn
  ·obtain ⟨xa,xc,rfl⟩:=bN hown
   obtain ⟨T,hT⟩:=aH (l:=F) (j:=j) (by rw [← L1.out];exact hlt)
   obtain ⟨b,off,rfl,p0,p1,p2⟩:=cL HX.out hT
   have hK:=aC hsg.bw
   have c0:=hK _ _ p0;have c1:=hK _ _ p1;have c2:=hK _ _ p2
   have SN:=Hd (show bisV (symF (F.take (j + 1))) = bisV (symF (F.take j)) ++ [str T.name,.int .i64 T.args] from oT (fun f : Fa=>(⟨f.name,f.args⟩ : Bi)) hT)
   obtain ⟨s0,s1,s2,f0,f1,f2⟩:=eN hsg.sig
   have OW:=Hd hown
   have SGr:=Hd hsg
   have hsz:=hsg.size
   have hpz:=hsg.past.1
   clear hT hK p0 p1 hs hown hsg
   generalize bisV (symF (F.take j)) = xs at *
   have C1 : Hid (j + 1 ≤ maxLen ∧ (j + 1) * 24 ≤ 140737488355328):=⟨by unfold maxLen;omega,by omega⟩
   have CB : Hid (Below wr.heap.size wr ((wr.alloc (.cells #[str T.name,.int .i64 T.args,.int .i64 T.tru] 102)).alloc (.cells #[str T.name,.int .i64 T.args] 360))):=bnew.alloc (by simp) _
   have C6 : Hid (w1.heap.size ≤ ((wr.alloc (.cells #[str T.name,.int .i64 T.args,.int .i64 T.tru] 102)).alloc (.cells #[str T.name,.int .i64 T.args] 360)).heap.size):=by show _ ≤ _;simp;omega
   go_wp2_with (at_builtin;refine wpList_append_own _ rfl _ _ 356 rfl w1.heap.size 360 i0 (.agg #[.string ⟨#[]⟩,.int .i64 0]) 2 24 Tryz.underlying356 hi0 hz0 hs0 hb0 rfl (by decide) _ _ _ rfl ((OW.out.alloc _).alloc _) ⟨wr.heap.size + 1,0,none⟩ 1 1 [str T.name,.int .i64 T.args] rfl rfl (news2' _ _ _ _) (by intro u hu;simp at hu;first | (rcases hu with rfl | rfl <;> rfl) | (subst hu;rfl)) C1.out.1 C1.out.2 C6.out ?_)
   intro v' w3 hown2 hg2 _
   obtain ⟨ya,yc,rfl⟩:=bN hown2
   have S3:=Hd ((SGr.out.moved CB.out).grown SZ0.out hg2 (fun g hg=>(OW.out.lt g hg).1))
   have O3:=Hd hown2
   obtain ⟨t0,t1,t2,g0,g1,g2⟩:=eN S3.out.sig
   clear hown2 hg2 s0 s1 s2 f0 f1 f2
   go_wp2_with fail
   go_roundw
   case rel=>exact ⟨j + 1,by omega,by go_num,_,by rw [SN.out];exact iK O3.out (by have:=SZ0.out;omega),S3.out.put 0 _ rfl⟩
   case measure=>simp [intOf];omega
  ·have e : fn = j:=by omega
   subst e
   have et : F.take fn = F:=List.take_of_length_le (by rw [← L1.out];exact Nat.le_refl _)
   rw [et] at hown
   obtain ⟨pa,pc,rfl⟩:=bN hown
   have FLA : Hid (aM (hide (fun i=>decide (i < w.heap.size + 3)) wr) 2 (bisV (symF F)) fn (.slice pa fn pc)):=jE (kZ hown SZ0.out)
   have SGA:=Hd hsg.again
   have SZA : Hid (w.heap.size + 3 ≤ wr.heap.size):=hsg.size
   have PSA:=Hd hsg.past
   clear hs hown hsg et
   obtain ⟨⟨d0,d1,d2,d3,d4,d5,d6⟩,-⟩:=aK SGA.out.mod
   go_wp2_with fail
   clear d0 d1 d2 d3 d4 d5 d6
   generalize hWn : wr = wA at *
   clear hWn
   go_loopw [31] (fun i wr=>∃ j : Nat,j ≤ gn ∧ i = .int .i64 j ∧ Hid (∃ P,wr.ownsRow wA.heap.size 360 2 P j (bisV (symG (G.take j))) ∧ Sg w 358 (mdR 2 z ra rn rc lo fa fn fc ga gn gc ba bn bc) (.cells #[.slice none 0 0,.slice none 0 0,.slice none 0 0] 358) wA (.slice pa fn pc) P (.slice none 0 0) wr)) (fun i _=>gn - (intOf i).toNat)
   case atStart=>exact ⟨0,Nat.zero_le _,rfl,_,World.ownsRow_nil _ _ _ _,SGA.out⟩
   case round =>
    obtain ⟨j,hj,rfl,hs⟩:=hrel
    obtain ⟨P,hown,hsg⟩:=hs.out
    by_cases hlt : j < gn
    ·obtain ⟨xa,xc,rfl⟩:=bN hown
     obtain ⟨T,hT⟩:=aH (l:=G) (j:=j) (by rw [← L2.out];exact hlt)
     obtain ⟨b,off,rfl,GG⟩:=HG.out.get (bG hT)
     obtain ⟨vx,vk,ve,p0,p1,p2,-⟩:=GG j T hT
     clear GG
     have hK:=aC hsg.bw
     have c0:=hK _ _ p0;have c1:=hK _ _ p1;have c2:=hK _ _ p2
     have SN:=Hd (show bisV (symG (G.take (j + 1))) = bisV (symG (G.take j)) ++ [str T.name,.int .i64 T.args] from oT (fun f : Fu=>(⟨f.name,f.args⟩ : Bi)) hT)
     obtain ⟨s0,s1,s2,f0,f1,f2⟩:=eN hsg.sig
     have OW:=Hd hown
     have SGr:=Hd hsg
     have hsz:=hsg.size
     have hpz:=hsg.past.1
     clear hT hK p0 p1 hs hown hsg
     generalize bisV (symG (G.take j)) = xs at *
     have C1 : Hid (j + 1 ≤ maxLen ∧ (j + 1) * 24 ≤ 140737488355328):=⟨by unfold maxLen;omega,by omega⟩
     have CB : Hid (Below wr.heap.size wr ((wr.alloc (.cells #[str T.name,.int .i64 T.args,.slice vx vk ve] 121)).alloc (.cells #[str T.name,.int .i64 T.args] 360))):=bnew.alloc (by simp) _
     have C6 : Hid (wA.heap.size ≤ ((wr.alloc (.cells #[str T.name,.int .i64 T.args,.slice vx vk ve] 121)).alloc (.cells #[str T.name,.int .i64 T.args] 360)).heap.size):=by show _ ≤ _;simp;omega
     go_wp2_with (at_builtin;refine wpList_append_own _ rfl _ _ 356 rfl wA.heap.size 360 i0 (.agg #[.string ⟨#[]⟩,.int .i64 0]) 2 24 Tryz.underlying356 hi0 hz0 hs0 hb0 rfl (by decide) _ _ _ rfl ((OW.out.alloc _).alloc _) ⟨wr.heap.size + 1,0,none⟩ 1 1 [str T.name,.int .i64 T.args] rfl rfl (news2' _ _ _ _) (by intro u hu;simp at hu;first | (rcases hu with rfl | rfl <;> rfl) | (subst hu;rfl)) C1.out.1 C1.out.2 C6.out ?_)
     intro v' w3 hown2 hg2 _
     obtain ⟨ya,yc,rfl⟩:=bN hown2
     have S3:=Hd ((SGr.out.moved CB.out).grown SZA.out hg2 (fun g hg=>(OW.out.lt g hg).1))
     have O3:=Hd hown2
     obtain ⟨t0,t1,t2,g0,g1,g2⟩:=eN S3.out.sig
     clear hown2 hg2 s0 s1 s2 f0 f1 f2
     go_wp2_with fail
     go_roundw
     case rel=>exact ⟨j + 1,by omega,by go_num,_,by rw [SN.out];exact iK O3.out (by have:=SZA.out;omega),S3.out.put 1 _ rfl⟩
     case measure=>simp [intOf];omega
    ·have e : gn = j:=by omega
     subst e
     have et : G.take gn = G:=List.take_of_length_le (by rw [← L2.out];exact Nat.le_refl _)
     rw [et] at hown
     obtain ⟨qa,qc,rfl⟩:=bN hown
     have FLB : Hid (aM (hide (fun i=>decide (i < w.heap.size + 3)) wr) 2 (bisV (symG G)) gn (.slice qa gn qc)):=jE (kZ hown SZA.out)
     have SGB:=Hd hsg.again
     have SZB : Hid (w.heap.size + 3 ≤ wr.heap.size):=hsg.size
     have PSB:=Hd hsg.past
     clear hs hown hsg et
     obtain ⟨⟨d0,d1,d2,d3,d4,d5,d6⟩,-⟩:=aK SGB.out.mod
     go_wp2_with fail
     clear d0 d1 d2 d3 d4 d5 d6
     generalize hWn : wr = wB at *
     clear hWn
     go_loopw [49] (fun i wr=>∃ j : Nat,j ≤ bn ∧ i = .int .i64 j ∧ Hid (∃ P,wr.ownsRow wB.heap.size 9 1 P j (((B.take j).map Bi.name).map str) ∧ Sg w 358 (mdR 2 z ra rn rc lo fa fn fc ga gn gc ba bn bc) (.cells #[.slice none 0 0,.slice none 0 0,.slice none 0 0] 358) wB (.slice pa fn pc) (.slice qa gn qc) P wr)) (fun i _=>bn - (intOf i).toNat)
     case atStart=>exact ⟨0,Nat.zero_le _,rfl,_,World.ownsRow_nil _ _ _ _,SGB.out⟩
     case round =>
      obtain ⟨j,hj,rfl,hs⟩:=hrel
      obtain ⟨P,hown,hsg⟩:=hs.out
      by_cases hlt : j < bn
      ·obtain ⟨xa,xc,rfl⟩:=bN hown
       obtain ⟨T,hT⟩:=aH (l:=B) (j:=j) (by rw [← L3.out];exact hlt)
       obtain ⟨b,off,rfl,p0,p1⟩:=gE HY.out hT
       have hK:=aC hsg.bw
       have c0:=hK _ _ p0;have c1:=hK _ _ p1
       have SN:=Hd (show ((B.take (j + 1)).map Bi.name).map str = ((B.take j).map Bi.name).map str ++ [str T.name] from (by rw [cY Bi.name hT,List.map_append];rfl))
       obtain ⟨s0,s1,s2,f0,f1,f2⟩:=eN hsg.sig
       have OW:=Hd hown
       have SGr:=Hd hsg
       have hsz:=hsg.size
       have hpz:=hsg.past.1
       clear hT hK p0 p1 hs hown hsg
       generalize ((B.take j).map Bi.name).map str = xs at *
       have C1 : Hid (j + 1 ≤ maxLen ∧ (j + 1) * 16 ≤ 140737488355328):=⟨by unfold maxLen;omega,by omega⟩
       have CB : Hid (Below wr.heap.size wr ((wr.alloc (.cells #[str T.name,.int .i64 T.at_] 123)).alloc (.cells #[str T.name] 9))):=bnew.alloc (by simp) _
       have C6 : Hid (wB.heap.size ≤ ((wr.alloc (.cells #[str T.name,.int .i64 T.at_] 123)).alloc (.cells #[str T.name] 9)).heap.size):=by show _ ≤ _;simp;omega
       go_wp2_with (at_builtin;refine wpList_append_own _ rfl _ _ 36 rfl wB.heap.size 9 j0 (.string ⟨#[]⟩) 1 16 Tryz.underlying36 hj0 hy0 ht0 hc0 rfl (by decide) _ _ _ rfl ((OW.out.alloc _).alloc _) ⟨wr.heap.size + 1,0,none⟩ 1 1 [str T.name] rfl rfl (news1' _ _ _) (by intro u hu;simp at hu;first | (rcases hu with rfl | rfl <;> rfl) | (subst hu;rfl)) C1.out.1 C1.out.2 C6.out ?_)
       intro v' w3 hown2 hg2 _
       obtain ⟨ya,yc,rfl⟩:=bN hown2
       have S3:=Hd ((SGr.out.moved CB.out).grown SZB.out hg2 (fun g hg=>(OW.out.lt g hg).1))
       have O3:=Hd hown2
       obtain ⟨t0,t1,t2,g0,g1,g2⟩:=eN S3.out.sig
       clear hown2 hg2 s0 s1 s2 f0 f1 f2
       go_wp2_with fail
       go_roundw
       case rel=>exact ⟨j + 1,by omega,by go_num,_,by rw [SN.out];exact iK O3.out (by have:=SZB.out;omega),S3.out.put 2 _ rfl⟩
       case measure=>simp [intOf];omega
      ·have e : bn = j:=by omega
       subst e
       have et : B.take bn = B:=List.take_of_length_le (by rw [← L3.out];exact Nat.le_refl _)
       rw [et] at hown
       obtain ⟨va,vc,rfl⟩:=bN hown
       have FLC : Hid (aM (hide (fun i=>decide (i < w.heap.size + 3)) wr) 1 ((B.map Bi.name).map str) bn (.slice va bn vc)):=jE (kZ hown SZB.out)
       have SGC:=Hd hsg
       clear hs hown hsg et
       obtain ⟨s0,s1,s2,f0,f1,f2⟩:=eN SGC.out.sig
       obtain ⟨r0,r1,r2,h0,h1,h2⟩:=eN SGC.out.res
       go_wp2_with fail
       have g0:=aQ (o:=0) (u:=.slice pa fn pc) SGC.out.res
       have g1:=aQ (o:=1) (u:=.slice qa gn qc) g0
       have g2:=aQ (o:=2) (u:=.slice va bn vc) g1
       have P4 : Past (w.heap.size + 3) wr (((wr.setCell ⟨w.heap.size + 1,0,none⟩ (.slice pa fn pc)).setCell ⟨w.heap.size + 1,1,none⟩ (.slice qa gn qc)).setCell ⟨w.heap.size + 1,2,none⟩ (.slice va bn vc)):=(((Past.refl _ _).set (by omega) _).set (by omega) _).set (by omega) _
       have PK : ∀ {X Y : World},Past (w.heap.size + 3) X Y → bI (hide (fun i=>decide (i < w.heap.size + 3)) X) (hide (fun i=>decide (i < w.heap.size + 3)) Y):=fun h=>bP fun k h1 h2=>⟨h2,h.2 k (by simpa using h2) h1⟩
       refine bodyPost_ret (res358 rfl _ _ (w.heap.size + 1) _ _ _ (0,0) rfl g2) rfl ⟨pa,pc,qa,qc,va,vc,rfl,⟨?_, ?_, ?_⟩,((SGC.out.bw.setCell (by simp) _).setCell (by simp) _).setCell (by simp) _⟩
       ·rw [← L1.out];exact ((((FLA.out.keep (PK PSB.out)).keep (PK SGC.out.past)).keep (PK P4)).keep (dM _ _))
       ·rw [← L2.out];exact (((FLB.out.keep (PK SGC.out.past)).keep (PK P4)).keep (dM _ _))
       ·rw [← L3.out];exact ((FLC.out.keep (PK P4)).keep (dM _ _))
open Go Go.RowKit Go.Sort Ly
set_option maxHeartbeats 4000000
theorem tM {w : World} {l : List Bs} {n : Nat} {u : Value} (h : aM w 1 (l.map str) n u) (hn : n = l.length) : aX w l u:=by
 subst hn
 have:=h.to
 rw [List.map_map] at this
 exact this
theorem mE.keep {F : List Fa} {G : List Fu} {B : List Bi} {p q v : Value} {w w' : World} (h : mE F G B p q v w) (k : bI w w') : mE F G B p q v w':=⟨h.1.keep k,h.2.1.keep k,h.2.2.keep k⟩
theorem sigRight_c (F : List Fa) (G : List Fu) (B : List Bi) (hF : ∀ x ∈ F,x.name.length ≤ 9223372036854775807) (hG : ∀ x ∈ G,x.name.length ≤ 9223372036854775807) (hB : ∀ x ∈ B,x.name.length ≤ 9223372036854775807) (pa qa va : Option Addr) (pn pc qn qc vn vc : Nat) (w : World) (h : mE F G B (.slice pa pn pc) (.slice qa qn qc) (.slice va vn vc) w) :
  Calls Tryz.prog 353 #[.agg #[.slice pa pn pc,.slice qa qn qc,.slice va vn vc]] w (Rt (.bool (sigB (symF F) (symG G) (B.map Bi.name))) w):=by
 have HB0 : Hid (Below w.heap.size w (w.alloc (.cells #[.slice pa pn pc,.slice qa qn qc,.slice va vn vc] 358))):=bnew
 have NEW:=Hd (heap_alloc_new w (.cells #[.slice pa pn pc,.slice qa qn qc,.slice va vn vc] 358))
 obtain ⟨s1,h1⟩ : ∃ s,aI (symF F).length (dI aY 2 (symF F)) = s:=⟨_,rfl⟩
 obtain ⟨s2,h2⟩ : ∃ s,aI (symG G).length (dI bZ 1 (symG G)) = s:=⟨_,rfl⟩
 obtain ⟨s3,h3⟩ : ∃ s,aI (B.map Bi.name).length (fL bR (B.map Bi.name)) = s:=⟨_,rfl⟩
 have C1 : Hid (∀ W,Below w.heap.size w W → Calls Tryz.prog 359 #[.slice pa pn pc,.func (.func 360) #[] #[],.func (.func 357) #[] #[]] W (Rt (.bool s1) W)):=fun W hW=>by
  rw [← h1]
  exact incr357_c (symF F) (fun x hx=>by obtain ⟨f,hf,rfl⟩:=List.mem_map.1 hx;exact hF f hf) pa pn pc W (by have:=(h.keep (aC hW)).1;rwa [show (symF F).length = F.length by simp [symF]])
 have C2 : Hid (∀ W,Below w.heap.size w W → Calls Tryz.prog 359 #[.slice qa qn qc,.func (.func 360) #[] #[],.func (.func 358) #[] #[]] W (Rt (.bool s2) W)):=fun W hW=>by
  rw [← h2]
  exact incr358_c (symG G) (fun x hx=>by obtain ⟨f,hf,rfl⟩:=List.mem_map.1 hx;exact hG f hf) qa qn qc W (by have:=(h.keep (aC hW)).2.1;rwa [show (symG G).length = G.length by simp [symG]])
 have C3 : Hid (∀ W,Below w.heap.size w W → Calls Tryz.prog 361 #[.slice va vn vc,.func (.func 164) #[] #[],.func (.func 266) #[] #[]] W (Rt (.bool s3) W)):=fun W hW=>by
  rw [← h3]
  exact incrS_c (B.map Bi.name) (fun x hx=>by obtain ⟨f,hf,rfl⟩:=List.mem_map.1 hx;exact hB f hf) va vn vc W (tM (h.keep (aC hW)).2.2 (by simp))
 have TB : sigB (symF F) (symG G) (B.map Bi.name) = (s1 && (s2 && s3)):=by unfold sigB;rw [h1,h2,h3]
 rw [TB]
 obtain ⟨c0,c1,c2,-⟩:=eN NEW.out
 clear TB h1 h2 h3 h hF hG hB
 rcases (show s1 = false ∨ (s1 = true ∧ s2 = false) ∨ (s1 = true ∧ s2 = true) by cases s1 <;> cases s2 <;> simp) with rfl | ⟨rfl,rfl⟩ | ⟨rfl,rfl⟩
 ·go_enter Tryz.func353,Tryz.ntmps353
  go_wp2_with (go_at_call 359;refine (C1.out _ HB0.out).mono ?_;rintro e w1 ⟨rfl,b1⟩;have B1:=Hd (aA HB0.out b1);have N1:=Hd (kc b1 NEW.out);clear b1;obtain ⟨c0,c1,c2,-⟩:=eN N1.out)
  go_ret
  exact ⟨rfl,B1.out⟩
 ·go_enter Tryz.func353,Tryz.ntmps353
  go_wp2_with (first | (go_at_call 359;refine (C2.out _ B1.out).mono ?_;rintro e w2 ⟨rfl,b2⟩;have B2:=Hd (aA B1.out b2);clear b2) | (go_at_call 359;refine (C1.out _ HB0.out).mono ?_;rintro e w1 ⟨rfl,b1⟩;have B1:=Hd (aA HB0.out b1);have N1:=Hd (kc b1 NEW.out);clear b1;obtain ⟨c0,c1,c2,-⟩:=eN N1.out))
  go_ret
  exact ⟨rfl,B2.out⟩
 ·go_enter Tryz.func353,Tryz.ntmps353
  go_wp2_with (first | (go_at_call 361;refine (C3.out _ B2.out).mono ?_;rintro e w3 ⟨rfl,b3⟩;have B3:=Hd (aA B2.out b3);clear b3) | (go_at_call 359;refine (C2.out _ B1.out).mono ?_;rintro e w2 ⟨rfl,b2⟩;have B2:=Hd (aA B1.out b2);have N2:=Hd (kc b2 N1.out);clear b2;obtain ⟨c0,c1,c2,-⟩:=eN N2.out) | (go_at_call 359;refine (C1.out _ HB0.out).mono ?_;rintro e w1 ⟨rfl,b1⟩;have B1:=Hd (aA HB0.out b1);have N1:=Hd (kc b1 NEW.out);clear b1;obtain ⟨c0,c1,c2,-⟩:=eN N1.out))
  go_ret
  exact ⟨by simp,B3.out⟩
end Go.Proofs.YtcandidgaegghaaGreatDoor
