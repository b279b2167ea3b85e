/- lyceumref11.Of and Sound. Conditions: at most a thousand facts, functions and binds; names fit into memory. -/
import Derived.Test.YtcandidgaegghaaGreatDoorCpZ
import Derived.Test.YtcandidgaegghaaGreatDoorMdWZ
import Derived.Deep.RegionLaw
set_option maxRecDepth 10000
set_option linter.unusedSimpArgs false
set_option linter.unusedVariables false
namespace Go.Proofs.YtcandidgaegghaaGreatDoor
open Go Go.RowKit Go.Sort Ly
set_option maxHeartbeats 4000000
theorem pA {W : World} {B e k n : Nat} {v : Value} {xs : List Value} (h : W.ownsRow B e k v n xs) : W.drew.ownsRow B e k v n xs:=h
theorem sigOf_c (F : List Fa) (G : List Fu) (B : List Bi) (hF : F.length ≤ 1000) (hG : G.length ≤ 1000) (hB : B.length ≤ 1000) (z lo : Int) (ra fa ga ba : Option Addr) (rn rc fn fc gn gc bn bc : Nat) (w : World) (hx : aM w 3 (fasV F) F.length (.slice fa fn fc)) (hg : fZ w G (.slice ga gn gc)) (hy : aM w 2 (bisV B) B.length (.slice ba bn bc)) :
  Calls Tryz.prog 223 #[mdK 2 z ra rn rc lo fa fn fc ga gn gc ba bn bc] w fun e w'=>∃ pa pc qa qc va vc,e = .returned (.agg #[.slice pa fn pc,.slice qa gn qc,.slice va bn vc]) ∧ mE F G B (.slice pa fn pc) (.slice qa gn qc) (.slice va bn vc) w' ∧ Below w.heap.size w w':=by
 have L1:=Hd hx.len.1
 have L2:=Hd hg.len.1
 have L3:=Hd hy.len.1
 have fk : fn ≤ 1000:=by have:=L1.out;omega
 have gk : gn ≤ 1000:=by have:=L2.out;omega
 have bk : bn ≤ 1000:=by have:=L3.out;omega
 have HX:=Hd hx
 have HG:=Hd hg
 have HY:=Hd hy
 obtain ⟨i0,hi0,hz0,hs0,hb0⟩:=info_parts info308
 obtain ⟨j0,hj0,hy0,ht0,hc0⟩:=info_parts fP
 have SG0 : Hid (Sg w 257 (mdR 2 z ra rn rc lo fa fn fc ga gn gc ba bn bc) (.cells #[.slice none 0 0,.slice none 0 0,.slice none 0 0] 257) (((w.alloc (mdR 2 z ra rn rc lo fa fn fc ga gn gc ba bn bc)).alloc (.cells #[.slice none 0 0,.slice none 0 0,.slice none 0 0] 257)).alloc (.cells #[.slice none 0 0,.slice none 0 0,.slice none 0 0] 257)) (.slice none 0 0) (.slice none 0 0) (.slice none 0 0) (((w.alloc (mdR 2 z ra rn rc lo fa fn fc ga gn gc ba bn bc)).alloc (.cells #[.slice none 0 0,.slice none 0 0,.slice none 0 0] 257)).alloc (.cells #[.slice none 0 0,.slice none 0 0,.slice none 0 0] 257))):=by
  have b1 : Below w.heap.size w (w.alloc (mdR 2 z ra rn rc lo fa fn fc ga gn gc ba bn bc)):=bnew
  have b2:=b1.alloc (o:=(.cells #[.slice none 0 0,.slice none 0 0,.slice none 0 0] 257)) (by simp)
  have b3:=b2.alloc (o:=(.cells #[.slice none 0 0,.slice none 0 0,.slice none 0 0] 257)) (by simp;omega)
  refine ⟨b3, ?_, ?_, ?_,Past.refl _ _⟩
  ·exact kc bnew (kc bnew (heap_alloc_new w _))
  ·have:=heap_alloc_new (w.alloc (mdR 2 z ra rn rc lo fa fn fc ga gn gc ba bn bc)) (.cells #[.slice none 0 0,.slice none 0 0,.slice none 0 0] 257)
   rw [World.size_alloc] at this
   exact kc bnew this
  ·have:=heap_alloc_new ((w.alloc (mdR 2 z ra rn rc lo fa fn fc ga gn gc ba bn bc)).alloc (.cells #[.slice none 0 0,.slice none 0 0,.slice none 0 0] 257)) (.cells #[.slice none 0 0,.slice none 0 0,.slice none 0 0] 257)
   rw [World.size_alloc,World.size_alloc] at this
   exact this
 have SZ0 : Hid (w.heap.size + 3 ≤ (((w.alloc (mdR 2 z ra rn rc lo fa fn fc ga gn gc ba bn bc)).alloc (.cells #[.slice none 0 0,.slice none 0 0,.slice none 0 0] 257)).alloc (.cells #[.slice none 0 0,.slice none 0 0,.slice none 0 0] 257)).heap.size):=by show _ ≤ _;simp
 clear hx hg hy
 go_enter Tryz.func223,Tryz.ntmps223
 go_wp2_with fail
 generalize hW : (((w.alloc (mdR 2 z ra rn rc lo fa fn fc ga gn gc ba bn bc)).alloc (.cells #[.slice none 0 0,.slice none 0 0,.slice none 0 0] 257)).alloc (.cells #[.slice none 0 0,.slice none 0 0,.slice none 0 0] 257)) = w1 at *
 clear hW
 go_loopw [4] (fun i wr=>∃ j : Nat,j ≤ fn ∧ i = .int .i64 j ∧ Hid (∃ P,wr.ownsRow w1.heap.size 308 2 P j (bisV (symF (F.take j))) ∧ Sg w 257 (mdR 2 z ra rn rc lo fa fn fc ga gn gc ba bn bc) (.cells #[.slice none 0 0,.slice none 0 0,.slice none 0 0] 257) w1 P (.slice none 0 0) (.slice none 0 0) wr)) (fun i _=>fn - (intOf i).toNat)
 case atStart=>exact ⟨0,Nat.zero_le _,rfl,_,World.ownsRow_nil _ _ _ _,SG0.out⟩
 case round =>
  obtain ⟨j,hj,rfl,hs⟩:=hrel
  obtain ⟨P,hown,hsg⟩:=hs.out
  by_cases hlt : j < fn
  ·obtain ⟨xa,xc,rfl⟩:=bN hown
   obtain ⟨T,hT⟩:=aH (l:=F) (j:=j) (by rw [← L1.out];exact hlt)
   obtain ⟨b,off,rfl,p0,p1,-⟩:=cL HX.out hT
   have bz : b < w.heap.size:=World.block_lt_of_cell? w _ p0
   have hK:=aC hsg.bw
   have c0:=hK _ _ p0;have c1:=hK _ _ p1
   have SN:=Hd (show bisV (symF (F.take (j + 1))) = bisV (symF (F.take j)) ++ [str T.name,.int .i64 T.args] from oT (fun f : Fa=>(⟨f.name,f.args⟩ : Bi)) hT)
   obtain ⟨⟨d0,d1,d2,d3,d4,d5,d6⟩,-⟩:=aK hsg.mod
   have OWd:=Hd (pA hown)
   have SGd:=Hd (hsg.moved (Below.refl _ _).drew)
   have hsz:=hsg.size
   have hpz:=hsg.past.1
   clear hT hK p0 p1 hs
   generalize bisV (symF (F.take j)) = xs at *
   have C1 : Hid (j + 1 ≤ maxLen ∧ (j + 1) * 24 ≤ 140737488355328):=⟨by unfold maxLen;omega,by omega⟩
   have g1 : decide ((j : Int) < (fn : Int)) = true:=by simp;omega
   have CB : Hid (Below wr.drew.heap.size wr.drew (wr.drew.alloc (.cells #[str T.name,.int .i64 T.args] 308))):=bnew
   have C6 : Hid (w1.heap.size ≤ (wr.drew.alloc (.cells #[str T.name,.int .i64 T.args] 308)).heap.size):=by show _ ≤ _;simp;omega
   have HA : Hid (∀ i,i < w.heap.size + 2 → (wr.drew.alloc (.cells #[str T.name,.int .i64 T.args] 308)).heap[i]? = wr.heap[i]?):=fun i hi=>CB.out.block i (by simp;omega)
   have NW : Hid (∀ (j : Nat) (u : Value),([str T.name,.int .i64 T.args] : List Value)[j]? = some u → (wr.drew.alloc (.cells #[str T.name,.int .i64 T.args] 308)).cell? ((⟨wr.heap.size,0,none⟩ : Addr).add j) = some u):=yH _ _ _
   go_wp2_with fail
   obtain ⟨s0,s1,s2,f0,f1,f2⟩:=eN SGd.out.sig
   obtain ⟨q0,q1,q2,-⟩:=eN hsg.sig
   have v0 : wr.cell? ⟨w.heap.size + 1 + 1,0,none⟩ = _:=q0
   have v1 : wr.cell? ⟨w.heap.size + 1 + 1,1,none⟩ = _:=q1
   have v2 : wr.cell? ⟨w.heap.size + 1 + 1,2,none⟩ = _:=q2
   clear hsg hown
   refine wp_region_held_drew (S:=fun w'=>∀ i,i < w.heap.size + 2 → w'.heap[i]? = wr.heap[i]?) (by kernel_rfl) (fun _ _=>rfl) (fun hHeld=>?_)
   refine tk 0 ?_
   try simp only [Act.put,s1,s2,s3,s4,s5,s6]
   refine tk 2 ?_
   try simp only [Act.put,s1,s2,s3,s4,s5,s6]
   refine tk 3 ?_ (hv:=by intro w0 hSw;have z4:=(World.cell?_of_block (a:=⟨w.heap.size,4,none⟩) (hSw _ (by simp))).trans d4;go_simp;try with_reducible rfl)
   try simp only [Act.put,s1,s2,s3,s4,s5,s6]
   refine tk 4 ?_
   try simp only [Act.put,s1,s2,s3,s4,s5,s6]
   refine tk 5 ?_
   try simp only [Act.put,s1,s2,s3,s4,s5,s6]
   refine tk 6 ?_
   try simp only [Act.put,s1,s2,s3,s4,s5,s6]
   refine tk 7 ?_ (hv:=by intro w0 hSw;have z0:=(World.cell?_of_block (a:=⟨b,off + j * 3,none⟩) (hSw _ (by simp;omega))).trans c0;go_simp;try with_reducible rfl)
   try simp only [Act.put,s1,s2,s3,s4,s5,s6]
   refine tk 8 ?_
   try simp only [Act.put,s1,s2,s3,s4,s5,s6]
   refine tk 9 ?_ (hv:=by intro w0 hSw;have z4:=(World.cell?_of_block (a:=⟨w.heap.size,4,none⟩) (hSw _ (by simp))).trans d4;go_simp;try with_reducible rfl)
   try simp only [Act.put,s1,s2,s3,s4,s5,s6]
   refine tk 10 ?_
   try simp only [Act.put,s1,s2,s3,s4,s5,s6]
   refine tk 11 ?_
   try simp only [Act.put,s1,s2,s3,s4,s5,s6]
   refine tk 12 ?_
   try simp only [Act.put,s1,s2,s3,s4,s5,s6]
   refine tk 13 ?_ (hv:=by intro w0 hSw;have z1:=(World.cell?_of_block (a:=⟨b,off + j * 3 + 1,none⟩) (hSw _ (by simp;omega))).trans c1;go_simp;try with_reducible rfl)
   try simp only [Act.put,s1,s2,s3,s4,s5,s6]
   refine tk 14 ?_
   try simp only [Act.put,s1,s2,s3,s4,s5,s6]
   refine wpAnyH_ready (rs:=[1,15]) (by kernel_rfl) (by simp) ?_
   refine AllReadyH.cons rfl (fun K hK=>?_) (AllReadyH.cons rfl (fun K hK=>?_) AllReadyH.nil)
   ·go_simp
    refine hK.out _ _ hHeld (fun hHeld2=>?_)
    clear hK K
    try simp only [Act.put,s1,s2,s3,s4,s5,s6]
    refine rd 15 (fun K hK=>?_)
    go_simp
    refine hK.out _ _ HA.out (fun hHeld3=>?_)
    clear hK K
    try simp only [Act.put,s1,s2,s3,s4,s5,s6]
    refine rd 16 (fun K hK=>?_)
    refine aR rfl _ _ 255 rfl w1.heap.size 308 i0 (.agg #[.string ⟨#[]⟩,.int .i64 0]) 2 24 Tryz.underlying255 hi0 hz0 hs0 hb0 rfl (by decide) _ j xs rfl (OWd.out.alloc _) ⟨wr.heap.size,0,none⟩ 1 1 [str T.name,.int .i64 T.args] rfl rfl NW.out (by intro u hu;simp at hu;first | (rcases hu with rfl | rfl <;> rfl) | (subst hu;rfl)) C1.out.1 C1.out.2 C6.out ?_
    intro v5 w5 hown2 hg2 _
    obtain ⟨ya,yc,rfl⟩:=bN hown2
    have S3:=Hd ((SGd.out.moved CB.out).grown SZ0.out hg2 (fun g hg=>(OWd.out.lt g hg).1))
    have O3:=Hd hown2
    have h5 : ∀ i,i < w.heap.size + 2 → w5.heap[i]? = wr.heap[i]?:=fun i hi=>(hg2.block _ (by simp;omega) (fun e=>by have:=(OWd.out.lt i e.symm).1;have:=SZ0.out;omega)).trans (CB.out.block i (by simp;omega))
    obtain ⟨t0,t1,t2,g0,g1,g2⟩:=eN S3.out.sig
    clear hown2 hg2
    refine hK.out _ _ h5 (fun hHeld5=>?_)
    clear hK K
    try simp only [Act.put,s1,s2,s3,s4,s5,s6]
    refine rd 17 (fun K hK=>?_)
    go_simp
    refine hK.out _ _ h5 (fun hHeld6=>?_)
    clear hK K
    try simp only [Act.put,s1,s2,s3,s4,s5,s6]
    refine rd 18 (fun K hK=>?_)
    go_simp
    refine hK.out _ _ (fun i hi=>by rw [Below.heap_setCell _ _ _ _ (by simp;omega)];exact h5 i hi) (fun hHeld6=>?_)
    clear hK K
    try simp only [Act.put,s1,s2,s3,s4,s5,s6]
    refine wpAnyH_done (by kernel_rfl) ?_ _
    go_wp2_with fail
    go_roundw
    case rel=>exact ⟨j + 1,by omega,by go_num,_,by rw [SN.out];exact iK O3.out (by have:=SZ0.out;omega),S3.out.put 0 _ rfl⟩
    case measure=>simp [intOf];omega
   ·go_simp
    refine hK.out _ _ HA.out (fun hHeld2=>?_)
    clear hK K
    try simp only [Act.put,s1,s2,s3,s4,s5,s6]
    refine rd 1 (fun K hK=>?_)
    go_simp
    refine hK.out _ _ HA.out (fun hHeld3=>?_)
    clear hK K
    try simp only [Act.put,s1,s2,s3,s4,s5,s6]
    refine rd 16 (fun K hK=>?_)
    refine aR rfl _ _ 255 rfl w1.heap.size 308 i0 (.agg #[.string ⟨#[]⟩,.int .i64 0]) 2 24 Tryz.underlying255 hi0 hz0 hs0 hb0 rfl (by decide) _ j xs rfl (OWd.out.alloc _) ⟨wr.heap.size,0,none⟩ 1 1 [str T.name,.int .i64 T.args] rfl rfl NW.out (by intro u hu;simp at hu;first | (rcases hu with rfl | rfl <;> rfl) | (subst hu;rfl)) C1.out.1 C1.out.2 C6.out ?_
    intro v5 w5 hown2 hg2 _
    obtain ⟨ya,yc,rfl⟩:=bN hown2
    have S3:=Hd ((SGd.out.moved CB.out).grown SZ0.out hg2 (fun g hg=>(OWd.out.lt g hg).1))
    have O3:=Hd hown2
    have h5 : ∀ i,i < w.heap.size + 2 → w5.heap[i]? = wr.heap[i]?:=fun i hi=>(hg2.block _ (by simp;omega) (fun e=>by have:=(OWd.out.lt i e.symm).1;have:=SZ0.out;omega)).trans (CB.out.block i (by simp;omega))
    obtain ⟨t0,t1,t2,g0,g1,g2⟩:=eN S3.out.sig
    clear hown2 hg2
    refine hK.out _ _ h5 (fun hHeld5=>?_)
    clear hK K
    try simp only [Act.put,s1,s2,s3,s4,s5,s6]
    refine rd 17 (fun K hK=>?_)
    go_simp
    refine hK.out _ _ h5 (fun hHeld6=>?_)
    clear hK K
    try simp only [Act.put,s1,s2,s3,s4,s5,s6]
    refine rd 18 (fun K hK=>?_)
    go_simp
    refine hK.out _ _ (fun i hi=>by rw [Below.heap_setCell _ _ _ _ (by simp;omega)];exact h5 i hi) (fun hHeld6=>?_)
    clear hK K
    try simp only [Act.put,s1,s2,s3,s4,s5,s6]
    refine wpAnyH_done (by kernel_rfl) ?_ _
    go_wp2_with fail
    go_roundw
    case rel=>exact ⟨j + 1,by omega,by go_num,_,by rw [SN.out];exact iK O3.out (by have:=SZ0.out;omega),S3.out.put 0 _ rfl⟩
    case measure=>simp [intOf];omega
  ·have e : fn = j:=by omega
   subst e
   have et : F.take fn = F:=List.take_of_length_le (by rw [← L1.out];exact Nat.le_refl _)
   rw [et] at hown
   obtain ⟨pa,pc,rfl⟩:=bN hown
   have FLA : Hid (aM (hide (fun i=>decide (i < w.heap.size + 3)) wr) 2 (bisV (symF F)) fn (.slice pa fn pc)):=jE (kZ hown SZ0.out)
   have SGA:=Hd hsg.again
   have SZA : Hid (w.heap.size + 3 ≤ wr.heap.size):=hsg.size
   have PSA:=Hd hsg.past
   obtain ⟨⟨d0,d1,d2,d3,d4,d5,d6⟩,-⟩:=aK hsg.mod
   clear hs hown hsg et
   go_wp2_with fail
   clear d0 d1 d2 d3 d4 d5 d6
   generalize hWn : wr = wA at *
   clear hWn
   go_loopw [5] (fun i wr=>∃ j : Nat,j ≤ gn ∧ i = .int .i64 j ∧ Hid (∃ P,wr.ownsRow wA.heap.size 308 2 P j (bisV (symG (G.take j))) ∧ Sg w 257 (mdR 2 z ra rn rc lo fa fn fc ga gn gc ba bn bc) (.cells #[.slice none 0 0,.slice none 0 0,.slice none 0 0] 257) wA (.slice pa fn pc) P (.slice none 0 0) wr)) (fun i _=>gn - (intOf i).toNat)
   case atStart=>exact ⟨0,Nat.zero_le _,rfl,_,World.ownsRow_nil _ _ _ _,SGA.out⟩
   case round =>
    obtain ⟨j,hj,rfl,hs⟩:=hrel
    obtain ⟨P,hown,hsg⟩:=hs.out
    by_cases hlt : j < gn
    ·obtain ⟨xa,xc,rfl⟩:=bN hown
     obtain ⟨T,hT⟩:=aH (l:=G) (j:=j) (by rw [← L2.out];exact hlt)
     obtain ⟨b,off,rfl,GG⟩:=HG.out.get (bG hT)
     obtain ⟨-,-,-,p0,p1,-,-⟩:=GG j T hT
     clear GG
     have bz : b < w.heap.size:=World.block_lt_of_cell? w _ p0
     have hK:=aC hsg.bw
     have c0:=hK _ _ p0;have c1:=hK _ _ p1
     have SN:=Hd (show bisV (symG (G.take (j + 1))) = bisV (symG (G.take j)) ++ [str T.name,.int .i64 T.args] from oT (fun f : Fu=>(⟨f.name,f.args⟩ : Bi)) hT)
     obtain ⟨⟨d0,d1,d2,d3,d4,d5,d6⟩,-⟩:=aK hsg.mod
     have OWd:=Hd (pA hown)
     have SGd:=Hd (hsg.moved (Below.refl _ _).drew)
     have hsz:=hsg.size
     have hpz:=hsg.past.1
     clear hT hK p0 p1 hs
     generalize bisV (symG (G.take j)) = xs at *
     have C1 : Hid (j + 1 ≤ maxLen ∧ (j + 1) * 24 ≤ 140737488355328):=⟨by unfold maxLen;omega,by omega⟩
     have g1 : decide ((j : Int) < (gn : Int)) = true:=by simp;omega
     have CB : Hid (Below wr.drew.heap.size wr.drew (wr.drew.alloc (.cells #[str T.name,.int .i64 T.args] 308))):=bnew
     have C6 : Hid (wA.heap.size ≤ (wr.drew.alloc (.cells #[str T.name,.int .i64 T.args] 308)).heap.size):=by show _ ≤ _;simp;omega
     have HA : Hid (∀ i,i < w.heap.size + 2 → (wr.drew.alloc (.cells #[str T.name,.int .i64 T.args] 308)).heap[i]? = wr.heap[i]?):=fun i hi=>CB.out.block i (by simp;omega)
     have NW : Hid (∀ (j : Nat) (u : Value),([str T.name,.int .i64 T.args] : List Value)[j]? = some u → (wr.drew.alloc (.cells #[str T.name,.int .i64 T.args] 308)).cell? ((⟨wr.heap.size,0,none⟩ : Addr).add j) = some u):=yH _ _ _
     go_wp2_with fail
     obtain ⟨s0,s1,s2,f0,f1,f2⟩:=eN SGd.out.sig
     obtain ⟨q0,q1,q2,-⟩:=eN hsg.sig
     have v0 : wr.cell? ⟨w.heap.size + 1 + 1,0,none⟩ = _:=q0
     have v1 : wr.cell? ⟨w.heap.size + 1 + 1,1,none⟩ = _:=q1
     have v2 : wr.cell? ⟨w.heap.size + 1 + 1,2,none⟩ = _:=q2
     clear hsg hown
     refine wp_region_held_drew (S:=fun w'=>∀ i,i < w.heap.size + 2 → w'.heap[i]? = wr.heap[i]?) (by kernel_rfl) (fun _ _=>rfl) (fun hHeld=>?_)
     refine tk 0 ?_
     try simp only [Act.put,s1,s2,s3,s4,s5,s6]
     refine tk 2 ?_
     try simp only [Act.put,s1,s2,s3,s4,s5,s6]
     refine tk 3 ?_ (hv:=by intro w0 hSw;have z4:=(World.cell?_of_block (a:=⟨w.heap.size,5,none⟩) (hSw _ (by simp))).trans d5;go_simp;try with_reducible rfl)
     try simp only [Act.put,s1,s2,s3,s4,s5,s6]
     refine tk 4 ?_
     try simp only [Act.put,s1,s2,s3,s4,s5,s6]
     refine tk 5 ?_
     try simp only [Act.put,s1,s2,s3,s4,s5,s6]
     refine tk 6 ?_
     try simp only [Act.put,s1,s2,s3,s4,s5,s6]
     refine tk 7 ?_ (hv:=by intro w0 hSw;have z0:=(World.cell?_of_block (a:=⟨b,off + j * 3,none⟩) (hSw _ (by simp;omega))).trans c0;go_simp;try with_reducible rfl)
     try simp only [Act.put,s1,s2,s3,s4,s5,s6]
     refine tk 8 ?_
     try simp only [Act.put,s1,s2,s3,s4,s5,s6]
     refine tk 9 ?_ (hv:=by intro w0 hSw;have z4:=(World.cell?_of_block (a:=⟨w.heap.size,5,none⟩) (hSw _ (by simp))).trans d5;go_simp;try with_reducible rfl)
     try simp only [Act.put,s1,s2,s3,s4,s5,s6]
     refine tk 10 ?_
     try simp only [Act.put,s1,s2,s3,s4,s5,s6]
     refine tk 11 ?_
     try simp only [Act.put,s1,s2,s3,s4,s5,s6]
     refine tk 12 ?_
     try simp only [Act.put,s1,s2,s3,s4,s5,s6]
     refine tk 13 ?_ (hv:=by intro w0 hSw;have z1:=(World.cell?_of_block (a:=⟨b,off + j * 3 + 1,none⟩) (hSw _ (by simp;omega))).trans c1;go_simp;try with_reducible rfl)
     try simp only [Act.put,s1,s2,s3,s4,s5,s6]
     refine tk 14 ?_
     try simp only [Act.put,s1,s2,s3,s4,s5,s6]
     refine wpAnyH_ready (rs:=[1,15]) (by kernel_rfl) (by simp) ?_
     refine AllReadyH.cons rfl (fun K hK=>?_) (AllReadyH.cons rfl (fun K hK=>?_) AllReadyH.nil)
     ·go_simp
      refine hK.out _ _ hHeld (fun hHeld2=>?_)
      clear hK K
      try simp only [Act.put,s1,s2,s3,s4,s5,s6]
      refine rd 15 (fun K hK=>?_)
      go_simp
      refine hK.out _ _ HA.out (fun hHeld3=>?_)
      clear hK K
      try simp only [Act.put,s1,s2,s3,s4,s5,s6]
      refine rd 16 (fun K hK=>?_)
      refine aR rfl _ _ 255 rfl wA.heap.size 308 i0 (.agg #[.string ⟨#[]⟩,.int .i64 0]) 2 24 Tryz.underlying255 hi0 hz0 hs0 hb0 rfl (by decide) _ j xs rfl (OWd.out.alloc _) ⟨wr.heap.size,0,none⟩ 1 1 [str T.name,.int .i64 T.args] rfl rfl NW.out (by intro u hu;simp at hu;first | (rcases hu with rfl | rfl <;> rfl) | (subst hu;rfl)) C1.out.1 C1.out.2 C6.out ?_
      intro v5 w5 hown2 hg2 _
      obtain ⟨ya,yc,rfl⟩:=bN hown2
      have S3:=Hd ((SGd.out.moved CB.out).grown SZA.out hg2 (fun g hg=>(OWd.out.lt g hg).1))
      have O3:=Hd hown2
      have h5 : ∀ i,i < w.heap.size + 2 → w5.heap[i]? = wr.heap[i]?:=fun i hi=>(hg2.block _ (by simp;omega) (fun e=>by have:=(OWd.out.lt i e.symm).1;have:=SZA.out;omega)).trans (CB.out.block i (by simp;omega))
      obtain ⟨t0,t1,t2,g0,g1,g2⟩:=eN S3.out.sig
      clear hown2 hg2
      refine hK.out _ _ h5 (fun hHeld5=>?_)
      clear hK K
      try simp only [Act.put,s1,s2,s3,s4,s5,s6]
      refine rd 17 (fun K hK=>?_)
      go_simp
      refine hK.out _ _ h5 (fun hHeld6=>?_)
      clear hK K
      try simp only [Act.put,s1,s2,s3,s4,s5,s6]
      refine rd 18 (fun K hK=>?_)
      go_simp
      refine hK.out _ _ (fun i hi=>by rw [Below.heap_setCell _ _ _ _ (by simp;omega)];exact h5 i hi) (fun hHeld6=>?_)
      clear hK K
      try simp only [Act.put,s1,s2,s3,s4,s5,s6]
      refine wpAnyH_done (by kernel_rfl) ?_ _
      go_wp2_with fail
      go_roundw
      case rel=>exact ⟨j + 1,by omega,by go_num,_,by rw [SN.out];exact iK O3.out (by have:=SZA.out;omega),S3.out.put 1 _ rfl⟩
      case measure=>simp [intOf];omega
     ·go_simp
      refine hK.out _ _ HA.out (fun hHeld2=>?_)
      clear hK K
      try simp only [Act.put,s1,s2,s3,s4,s5,s6]
      refine rd 1 (fun K hK=>?_)
      go_simp
      refine hK.out _ _ HA.out (fun hHeld3=>?_)
      clear hK K
      try simp only [Act.put,s1,s2,s3,s4,s5,s6]
      refine rd 16 (fun K hK=>?_)
      refine aR rfl _ _ 255 rfl wA.heap.size 308 i0 (.agg #[.string ⟨#[]⟩,.int .i64 0]) 2 24 Tryz.underlying255 hi0 hz0 hs0 hb0 rfl (by decide) _ j xs rfl (OWd.out.alloc _) ⟨wr.heap.size,0,none⟩ 1 1 [str T.name,.int .i64 T.args] rfl rfl NW.out (by intro u hu;simp at hu;first | (rcases hu with rfl | rfl <;> rfl) | (subst hu;rfl)) C1.out.1 C1.out.2 C6.out ?_
      intro v5 w5 hown2 hg2 _
      obtain ⟨ya,yc,rfl⟩:=bN hown2
      have S3:=Hd ((SGd.out.moved CB.out).grown SZA.out hg2 (fun g hg=>(OWd.out.lt g hg).1))
      have O3:=Hd hown2
      have h5 : ∀ i,i < w.heap.size + 2 → w5.heap[i]? = wr.heap[i]?:=fun i hi=>(hg2.block _ (by simp;omega) (fun e=>by have:=(OWd.out.lt i e.symm).1;have:=SZA.out;omega)).trans (CB.out.block i (by simp;omega))
      obtain ⟨t0,t1,t2,g0,g1,g2⟩:=eN S3.out.sig
      clear hown2 hg2
      refine hK.out _ _ h5 (fun hHeld5=>?_)
      clear hK K
      try simp only [Act.put,s1,s2,s3,s4,s5,s6]
      refine rd 17 (fun K hK=>?_)
      go_simp
      refine hK.out _ _ h5 (fun hHeld6=>?_)
      clear hK K
      try simp only [Act.put,s1,s2,s3,s4,s5,s6]
      refine rd 18 (fun K hK=>?_)
      go_simp
      refine hK.out _ _ (fun i hi=>by rw [Below.heap_setCell _ _ _ _ (by simp;omega)];exact h5 i hi) (fun hHeld6=>?_)
      clear hK K
      try simp only [Act.put,s1,s2,s3,s4,s5,s6]
      refine wpAnyH_done (by kernel_rfl) ?_ _
      go_wp2_with fail
      go_roundw
      case rel=>exact ⟨j + 1,by omega,by go_num,_,by rw [SN.out];exact iK O3.out (by have:=SZA.out;omega),S3.out.put 1 _ rfl⟩
      case measure=>simp [intOf];omega
    ·have e : gn = j:=by omega
     subst e
     have et : G.take gn = G:=List.take_of_length_le (by rw [← L2.out];exact Nat.le_refl _)
     rw [et] at hown
     obtain ⟨qa,qc,rfl⟩:=bN hown
     have FLB : Hid (aM (hide (fun i=>decide (i < w.heap.size + 3)) wr) 2 (bisV (symG G)) gn (.slice qa gn qc)):=jE (kZ hown SZA.out)
     have SGB:=Hd hsg.again
     have SZB : Hid (w.heap.size + 3 ≤ wr.heap.size):=hsg.size
     have PSB:=Hd hsg.past
     obtain ⟨⟨d0,d1,d2,d3,d4,d5,d6⟩,-⟩:=aK hsg.mod
     clear hs hown hsg et
     go_wp2_with fail
     clear d0 d1 d2 d3 d4 d5 d6
     generalize hWn : wr = wB at *
     clear hWn
     go_loopw [6] (fun i wr=>∃ j : Nat,j ≤ bn ∧ i = .int .i64 j ∧ Hid (∃ P,wr.ownsRow wB.heap.size 9 1 P j (((B.take j).map Bi.name).map str) ∧ Sg w 257 (mdR 2 z ra rn rc lo fa fn fc ga gn gc ba bn bc) (.cells #[.slice none 0 0,.slice none 0 0,.slice none 0 0] 257) wB (.slice pa fn pc) (.slice qa gn qc) P wr)) (fun i _=>bn - (intOf i).toNat)
     case atStart=>exact ⟨0,Nat.zero_le _,rfl,_,World.ownsRow_nil _ _ _ _,SGB.out⟩
     case round =>
      obtain ⟨j,hj,rfl,hs⟩:=hrel
      obtain ⟨P,hown,hsg⟩:=hs.out
      by_cases hlt : j < bn
      ·obtain ⟨xa,xc,rfl⟩:=bN hown
       obtain ⟨T,hT⟩:=aH (l:=B) (j:=j) (by rw [← L3.out];exact hlt)
       obtain ⟨b,off,rfl,p0,p1⟩:=gE HY.out hT
       have bz : b < w.heap.size:=World.block_lt_of_cell? w _ p0
       have hK:=aC hsg.bw
       have c0:=hK _ _ p0;have c1:=hK _ _ p1
       have SN:=Hd (show ((B.take (j + 1)).map Bi.name).map str = ((B.take j).map Bi.name).map str ++ [str T.name] from (by rw [cY Bi.name hT,List.map_append];rfl))
       obtain ⟨⟨d0,d1,d2,d3,d4,d5,d6⟩,-⟩:=aK hsg.mod
       have OWd:=Hd (pA hown)
       have SGd:=Hd (hsg.moved (Below.refl _ _).drew)
       have hsz:=hsg.size
       have hpz:=hsg.past.1
       clear hT hK p0 p1 hs
       generalize ((B.take j).map Bi.name).map str = xs at *
       have C1 : Hid (j + 1 ≤ maxLen ∧ (j + 1) * 16 ≤ 140737488355328):=⟨by unfold maxLen;omega,by omega⟩
       have g1 : decide ((j : Int) < (bn : Int)) = true:=by simp;omega
       have CB : Hid (Below wr.drew.heap.size wr.drew (wr.drew.alloc (.cells #[str T.name] 9))):=bnew
       have C6 : Hid (wB.heap.size ≤ (wr.drew.alloc (.cells #[str T.name] 9)).heap.size):=by show _ ≤ _;simp;omega
       have HA : Hid (∀ i,i < w.heap.size + 2 → (wr.drew.alloc (.cells #[str T.name] 9)).heap[i]? = wr.heap[i]?):=fun i hi=>CB.out.block i (by simp;omega)
       have NW : Hid (∀ (j : Nat) (u : Value),([str T.name] : List Value)[j]? = some u → (wr.drew.alloc (.cells #[str T.name] 9)).cell? ((⟨wr.heap.size,0,none⟩ : Addr).add j) = some u):=cell_one_new _ _ _
       go_wp2_with fail
       obtain ⟨s0,s1,s2,f0,f1,f2⟩:=eN SGd.out.sig
       obtain ⟨q0,q1,q2,-⟩:=eN hsg.sig
       have v0 : wr.cell? ⟨w.heap.size + 1 + 1,0,none⟩ = _:=q0
       have v1 : wr.cell? ⟨w.heap.size + 1 + 1,1,none⟩ = _:=q1
       have v2 : wr.cell? ⟨w.heap.size + 1 + 1,2,none⟩ = _:=q2
       clear hsg hown
       refine wp_region_held_drew (S:=fun w'=>∀ i,i < w.heap.size + 2 → w'.heap[i]? = wr.heap[i]?) (by kernel_rfl) (fun _ _=>rfl) (fun hHeld=>?_)
       refine tk 0 ?_
       try simp only [Act.put,s1,s2,s3,s4,s5,s6]
       refine tk 2 ?_
       try simp only [Act.put,s1,s2,s3,s4,s5,s6]
       refine tk 3 ?_ (hv:=by intro w0 hSw;have z4:=(World.cell?_of_block (a:=⟨w.heap.size,6,none⟩) (hSw _ (by simp))).trans d6;go_simp;try with_reducible rfl)
       try simp only [Act.put,s1,s2,s3,s4,s5,s6]
       refine tk 4 ?_
       try simp only [Act.put,s1,s2,s3,s4,s5,s6]
       refine tk 5 ?_
       try simp only [Act.put,s1,s2,s3,s4,s5,s6]
       refine tk 6 ?_
       try simp only [Act.put,s1,s2,s3,s4,s5,s6]
       refine tk 7 ?_ (hv:=by intro w0 hSw;have z0:=(World.cell?_of_block (a:=⟨b,off + j * 2,none⟩) (hSw _ (by simp;omega))).trans c0;go_simp;try with_reducible rfl)
       try simp only [Act.put,s1,s2,s3,s4,s5,s6]
       refine wpAnyH_ready (rs:=[1,8]) (by kernel_rfl) (by simp) ?_
       refine AllReadyH.cons rfl (fun K hK=>?_) (AllReadyH.cons rfl (fun K hK=>?_) AllReadyH.nil)
       ·go_simp
        refine hK.out _ _ hHeld (fun hHeld2=>?_)
        clear hK K
        try simp only [Act.put,s1,s2,s3,s4,s5,s6]
        refine rd 8 (fun K hK=>?_)
        go_simp
        refine hK.out _ _ HA.out (fun hHeld3=>?_)
        clear hK K
        try simp only [Act.put,s1,s2,s3,s4,s5,s6]
        refine rd 9 (fun K hK=>?_)
        refine aR rfl _ _ 36 rfl wB.heap.size 9 j0 (.string ⟨#[]⟩) 1 16 Tryz.underlying36 hj0 hy0 ht0 hc0 rfl (by decide) _ j xs rfl (OWd.out.alloc _) ⟨wr.heap.size,0,none⟩ 1 1 [str T.name] rfl rfl NW.out (by intro u hu;simp at hu;first | (rcases hu with rfl | rfl <;> rfl) | (subst hu;rfl)) C1.out.1 C1.out.2 C6.out ?_
        intro v5 w5 hown2 hg2 _
        obtain ⟨ya,yc,rfl⟩:=bN hown2
        have S3:=Hd ((SGd.out.moved CB.out).grown SZB.out hg2 (fun g hg=>(OWd.out.lt g hg).1))
        have O3:=Hd hown2
        have h5 : ∀ i,i < w.heap.size + 2 → w5.heap[i]? = wr.heap[i]?:=fun i hi=>(hg2.block _ (by simp;omega) (fun e=>by have:=(OWd.out.lt i e.symm).1;have:=SZB.out;omega)).trans (CB.out.block i (by simp;omega))
        obtain ⟨t0,t1,t2,g0,g1,g2⟩:=eN S3.out.sig
        clear hown2 hg2
        refine hK.out _ _ h5 (fun hHeld5=>?_)
        clear hK K
        try simp only [Act.put,s1,s2,s3,s4,s5,s6]
        refine rd 10 (fun K hK=>?_)
        go_simp
        refine hK.out _ _ h5 (fun hHeld6=>?_)
        clear hK K
        try simp only [Act.put,s1,s2,s3,s4,s5,s6]
        refine rd 11 (fun K hK=>?_)
        go_simp
        refine hK.out _ _ (fun i hi=>by rw [Below.heap_setCell _ _ _ _ (by simp;omega)];exact h5 i hi) (fun hHeld6=>?_)
        clear hK K
        try simp only [Act.put,s1,s2,s3,s4,s5,s6]
        refine wpAnyH_done (by kernel_rfl) ?_ _
        go_wp2_with fail
        go_roundw
        case rel=>exact ⟨j + 1,by omega,by go_num,_,by rw [SN.out];exact iK O3.out (by have:=SZB.out;omega),S3.out.put 2 _ rfl⟩
        case measure=>simp [intOf];omega
       ·go_simp
        refine hK.out _ _ HA.out (fun hHeld2=>?_)
        clear hK K
        try simp only [Act.put,s1,s2,s3,s4,s5,s6]
        refine rd 1 (fun K hK=>?_)
        go_simp
        refine hK.out _ _ HA.out (fun hHeld3=>?_)
        clear hK K
        try simp only [Act.put,s1,s2,s3,s4,s5,s6]
        refine rd 9 (fun K hK=>?_)
        refine aR rfl _ _ 36 rfl wB.heap.size 9 j0 (.string ⟨#[]⟩) 1 16 Tryz.underlying36 hj0 hy0 ht0 hc0 rfl (by decide) _ j xs rfl (OWd.out.alloc _) ⟨wr.heap.size,0,none⟩ 1 1 [str T.name] rfl rfl NW.out (by intro u hu;simp at hu;first | (rcases hu with rfl | rfl <;> rfl) | (subst hu;rfl)) C1.out.1 C1.out.2 C6.out ?_
        intro v5 w5 hown2 hg2 _
        obtain ⟨ya,yc,rfl⟩:=bN hown2
        have S3:=Hd ((SGd.out.moved CB.out).grown SZB.out hg2 (fun g hg=>(OWd.out.lt g hg).1))
        have O3:=Hd hown2
        have h5 : ∀ i,i < w.heap.size + 2 → w5.heap[i]? = wr.heap[i]?:=fun i hi=>(hg2.block _ (by simp;omega) (fun e=>by have:=(OWd.out.lt i e.symm).1;have:=SZB.out;omega)).trans (CB.out.block i (by simp;omega))
        obtain ⟨t0,t1,t2,g0,g1,g2⟩:=eN S3.out.sig
        clear hown2 hg2
        refine hK.out _ _ h5 (fun hHeld5=>?_)
        clear hK K
        try simp only [Act.put,s1,s2,s3,s4,s5,s6]
        refine rd 10 (fun K hK=>?_)
        go_simp
        refine hK.out _ _ h5 (fun hHeld6=>?_)
        clear hK K
        try simp only [Act.put,s1,s2,s3,s4,s5,s6]
        refine rd 11 (fun K hK=>?_)
        go_simp
        refine hK.out _ _ (fun i hi=>by rw [Below.heap_setCell _ _ _ _ (by simp;omega)];exact h5 i hi) (fun hHeld6=>?_)
        clear hK K
        try simp only [Act.put,s1,s2,s3,s4,s5,s6]
        refine wpAnyH_done (by kernel_rfl) ?_ _
        go_wp2_with fail
        go_roundw
        case rel=>exact ⟨j + 1,by omega,by go_num,_,by rw [SN.out];exact iK O3.out (by have:=SZB.out;omega),S3.out.put 2 _ rfl⟩
        case measure=>simp [intOf];omega
      ·have e : bn = j:=by omega
       subst e
       have et : B.take bn = B:=List.take_of_length_le (by rw [← L3.out];exact Nat.le_refl _)
       rw [et] at hown
       obtain ⟨va,vc,rfl⟩:=bN hown
       have FLC : Hid (aM (hide (fun i=>decide (i < w.heap.size + 3)) wr) 1 ((B.map Bi.name).map str) bn (.slice va bn vc)):=jE (kZ hown SZB.out)
       have SGC:=Hd hsg
       obtain ⟨⟨d0,d1,d2,d3,d4,d5,d6⟩,-⟩:=aK hsg.mod
       clear hs hown hsg et
       obtain ⟨s0,s1,s2,f0,f1,f2⟩:=eN SGC.out.sig
       obtain ⟨r0,r1,r2,h0,h1,h2⟩:=eN SGC.out.res
       go_wp2_with fail
       have g0:=aQ (o:=0) (u:=.slice pa fn pc) SGC.out.res
       have g1:=aQ (o:=1) (u:=.slice qa gn qc) g0
       have g2:=aQ (o:=2) (u:=.slice va bn vc) g1
       have P4 : Past (w.heap.size + 3) wr (((wr.setCell ⟨w.heap.size + 1,0,none⟩ (.slice pa fn pc)).setCell ⟨w.heap.size + 1,1,none⟩ (.slice qa gn qc)).setCell ⟨w.heap.size + 1,2,none⟩ (.slice va bn vc)):=(((Past.refl _ _).set (by omega) _).set (by omega) _).set (by omega) _
       have PK : ∀ {X Y : World},Past (w.heap.size + 3) X Y → bI (hide (fun i=>decide (i < w.heap.size + 3)) X) (hide (fun i=>decide (i < w.heap.size + 3)) Y):=fun h=>bP fun k h1 h2=>⟨h2,h.2 k (by simpa using h2) h1⟩
       refine bodyPost_ret (res257 rfl _ _ (w.heap.size + 1) _ _ _ (0,0) rfl g2) rfl ⟨pa,pc,qa,qc,va,vc,rfl,⟨?_, ?_, ?_⟩,((SGC.out.bw.setCell (by simp) _).setCell (by simp) _).setCell (by simp) _⟩
       ·rw [← L1.out];exact ((((FLA.out.keep (PK PSB.out)).keep (PK SGC.out.past)).keep (PK P4)).keep (dM _ _))
       ·rw [← L2.out];exact (((FLB.out.keep (PK SGC.out.past)).keep (PK P4)).keep (dM _ _))
       ·rw [← L3.out];exact ((FLC.out.keep (PK P4)).keep (dM _ _))
end Go.Proofs.YtcandidgaegghaaGreatDoor
