/- subst's normal$1: what stands for a name within quantifiers. Conditions: those of each statement. -/
import Derived.Test.YtppfalbnhnpbnaaGreatDoorMtAC
import Derived.Test.YtppfalbnhnpbnaaGreatDoorBuiltAC
import Derived.OneCell
set_option linter.unusedSimpArgs false
set_option linter.unusedVariables false
namespace Go.Proofs.YtppfalbnhnpbnaaGreatDoor
open Go Go.RowKit Ly
set_option maxRecDepth 10000
def prD (p : Bs × Bs) : List D:=[strD p.1,strD p.2]
def prsD : List (Bs × Bs) → List D
 | []=>[]
 | p :: ps=>prD p ++ prsD ps
theorem prsD_length (l : List (Bs × Bs)) : (prsD l).length = l.length * 2:=by
 induction l with
 | nil=>rfl
 | cons p l ih=>simp [prsD,prD,ih];omega
def dN (w : World) (l : List (Bs × Bs)) (u : Value) : Prop:=At w (.sl 2 l.length (prsD l)) u
theorem dN.keep {w w' : World} {l : List (Bs × Bs)} {u : Value} (h : dN w l u) (k : bI w w') : dN w' l u:=At.keep k _ _ h
theorem dN.len {w : World} {l : List (Bs × Bs)} {a : Option Addr} {n c : Nat} (h : dN w l (.slice a n c)) : n = l.length ∧ n ≤ c ∧ c ≤ maxLen:=by
 obtain ⟨a',cap,e,h1,h2,_⟩:=h
 simp only [Value.slice.injEq] at e
 obtain ⟨_,rfl,rfl⟩:=e
 exact ⟨rfl,h1,h2⟩
theorem dN.get {w : World} {l : List (Bs × Bs)} {a : Option Addr} {n c : Nat} (h : dN w l (.slice a n c)) (hn : l ≠ []) :
  ∃ b off,a = some ⟨b,off,none⟩ ∧ ∀ (i : Nat) (p : Bs × Bs),l[i]? = some p → w.cell? ⟨b,off + i * 2,none⟩ = some (str p.1) ∧ w.cell? ⟨b,off + i * 2 + 1,none⟩ = some (str p.2):=by
 obtain ⟨a',cap,e,_,_,_,h5⟩:=h.sl_inv
 simp only [Value.slice.injEq] at e
 obtain ⟨rfl,rfl,rfl⟩:=e
 rcases h5 with h5 | ⟨b,off,rfl,h5⟩
 ·exact absurd (List.eq_nil_of_length_eq_zero h5) hn
 ·refine ⟨b,off,rfl,fun i p hp=>?_⟩
  have g:=fun j hj=>lJ prD prsD 2 (fun _=>rfl) rfl (fun _ _=>rfl) l i p hp j hj
  obtain ⟨u0,k0,p0⟩:=h5 (i * 2) (strD p.1) (g 0 (by omega))
  obtain ⟨u1,k1,p1⟩:=h5 (i * 2 + 1) (strD p.2) (g 1 (by omega))
  have p0' : u0 = _:=p0
  have p1' : u1 = _:=p1
  subst p0' p1'
  exact ⟨k0,by rw [Nat.add_assoc];exact k1⟩
def kR (w : World) (c : Nat) (ar : List (Bs × Bs)) : Prop:=∃ a n k,w.heap[c]? = some (.cells #[.slice a n k] 145 (0,0)) ∧ dN w ar.reverse (.slice a n k)
theorem kR.below {w w' : World} {c : Nat} {ar : List (Bs × Bs)} (h : kR w c ar) (b : Below w.heap.size w w') : kR w' c ar:=by
 obtain ⟨a,n,k,h1,h2⟩:=h
 exact ⟨a,n,k,(b.block _ (Array.getElem?_eq_some_iff.1 h1).1).trans h1,h2.keep (aA b)⟩
theorem oC {ar : List (Bs × Bs)} {s : Bs} (h : ∀ p ∈ ar,(p.1 == s) = false) : arOf ar s = none:=by
 unfold arOf
 rw [List.find?_eq_none.2 (fun p hp=>by simp [h p hp])]
 rfl
theorem sK {ar : List (Bs × Bs)} {s : Bs} {j : Nat} {p : Bs × Bs} (h : ∀ q ∈ ar.take j,(q.1 == s) = false) (hp : ar[j]? = some p) (hs : (p.1 == s) = true) : arOf ar s = some p.2:=by
 unfold arOf
 have e : ar = ar.take j ++ p :: ar.drop (j + 1):=by
  obtain ⟨hj,rfl⟩:=List.getElem?_eq_some_iff.1 hp
  simp
 rw [e,List.find?_append,List.find?_eq_none.2 (fun q hq=>by simp [h q hq])]
 simp [hs]
theorem AJ (tmps : Array Value) (w : World) (g : Nat) (a b c z : Value) (h3 : tmps.getD 3 undef = one g) (h4 : tmps.getD 4 undef = z) (hg : w.heap[g]? = some (.cells #[a,b,c] 38 (0,0))) :
  (results Tryz.f97 tmps).run Tryz.prog w = .ok (.tuple #[.agg #[a,b,c],z]) w:=by
 obtain ⟨fs,h1⟩:=u95
 have e3 : tmps[3]?.getD undef = .pointer (some ⟨g,0,none⟩):=by simpa using h3
 have e4 : tmps[4]?.getD undef = z:=by simpa using h4
 simp [results,Tryz.results97,e3,e4,asAddr,run_loadVar_row w g 38 38 #[a,b,c] (0,0) _ hg h1 rfl i95]
set_option maxHeartbeats 2000000 in
theorem around_c (s : Bs) (ar : List (Bs × Bs)) (c : Nat) (w : World) (h : kR w c ar) (hl : ar.length ≤ 1000000) :
  Calls Tryz.prog 97 #[str s,one c] w fun e w'=>e = .returned (insV (arOf ar s)) ∧ Below w.heap.size w w':=by
 obtain ⟨a,n,k,h1,h2⟩:=h
 have hn:=h2.len
 rw [List.length_reverse] at hn
 have N1 : n ≤ 1000000:=by omega
 have HP:=Lib.hid h2
 have L1:=Lib.hid hn.1
 have C1:=Lib.hid h1
 have lt:=(Array.getElem?_eq_some_iff.1 h1).1
 obtain ⟨c0,-⟩:=row1 h1
 obtain ⟨W1,hW1⟩ : ∃ W1,w.alloc (.cells #[.bool false,str [],.slice none 0 0] 38) = W1:=⟨_,rfl⟩
 have b1 : Below w.heap.size w W1:=by rw [← hW1];exact (Below.refl _ _).alloc (Nat.le_refl _) _
 have c1 : W1.cell? ⟨c,0,none⟩ = some (.slice a n k):=by rw [← hW1];exact (row1 (aI _ h1)).1
 have wz : IntKind.i64.wrap ((n : Int) - 1) = (n : Int) - 1:=IntWalk.i64_in _ (by omega)
 have nn : n ≤ 9223372036854775807:=by omega
 have R0 : Hid (W1.heap[w.heap.size]? = some (.cells #[.bool false,str [],.slice none 0 0] 38 (0,0))):=by rw [← hW1];exact heap_alloc_new w _
 have B1:=Lib.hid b1
 clear h2 hn h1 hl c0 b1
 go_enter Tryz.func97,Tryz.ntmps97
 go_wp2
 clear hW1
 go_loopw [5] (fun i wr=>∃ (j : Nat) (z : Int),j ≤ n ∧ i = .int .i64 z ∧ z = (n : Int) - 1 - j ∧ Hid (∀ q ∈ ar.take j,(q.1 == s) = false) ∧ W1 = wr) (fun i _=>(intOf i + 1).toNat)
 case atStart=>exact ⟨0,(n : Int) - 1,Nat.zero_le _,rfl,by simp,by intro q hq;simp at hq,rfl⟩
 case round =>
  obtain ⟨j,z,hj,rfl,hz,hs,rfl⟩:=hrel
  by_cases hlt : j < n
  ·obtain ⟨q,rfl⟩ : ∃ q : Nat,z = (q : Int):=⟨n - 1 - j,by omega⟩
   have hq : q = n - 1 - j:=by omega
   obtain ⟨p,hp⟩:=aT (l:=ar) (j:=j) (by rw [← L1.out];exact hlt)
   have hp' : ar.reverse[q]? = some p:=by
    rw [List.getElem?_reverse (by rw [← L1.out];omega),← hp]
    congr 1
    have:=L1.out
    omega
   obtain ⟨bb,off,rfl,hc⟩:=HP.out.get (aX hp')
   obtain ⟨d0,d1⟩:=hc q p hp'
   have e0:=aA B1.out _ _ d0
   have e1:=aA B1.out _ _ d1
   have ql : (q : Int) ≥ 0:=by omega
   have ql2 : q < n:=by omega
   have HPJ:=Lib.hid hp
   have HQ:=Lib.hid hq
   cases hb : p.1 == s
   ·have HB:=Lib.hid hb
    clear hc d0 d1 hp hp' hz hq
    have wq : IntKind.i64.wrap ((q : Int) - 1) = (q : Int) - 1:=IntWalk.i64_in _ (by omega)
    go_wp2
    go_roundw
    case rel =>
     refine ⟨j + 1,(q : Int) - 1,by omega,rfl,by rw [HQ.out];omega,fun x hx=>?_,by trivial⟩
     rw [List.take_add_one,HPJ.out] at hx
     rcases List.mem_append.1 hx with hx | hx
     ·exact hs.out x hx
     ·simp at hx;rw [hx];exact HB.out
    case measure=>simp [intOf]
   ·have AN:=Lib.hid (sK hs.out hp hb)
    clear hc d0 d1 hp hp' hz hq wz
    obtain ⟨x0,x1,x2,z0,z1,z2⟩:=row95' R0.out
    go_wp2
    obtain ⟨g1,g2,-⟩:=pG (u:=.bool true) (v:=str p.2) (t:=.slice none 0 0) (Nat.le_refl _) B1.out R0.out
    exact bodyPost_ret (AJ _ _ w.heap.size _ _ _ _ rfl rfl g1) rfl ⟨by rw [AN.out];rfl,g2⟩
  ·have AN : Hid (arOf ar s = none):=oC (by have:=hs.out;rw [List.take_of_length_le (by rw [← L1.out];omega)] at this;exact this)
   have zl : ¬ (z ≥ 0):=by omega
   obtain ⟨x0,x1,x2,z0,z1,z2⟩:=row95' R0.out
   clear hz hs
   go_wp2
   obtain ⟨g1,g2,-⟩:=pG (u:=.bool false) (v:=str []) (t:=.slice none 0 0) (Nat.le_refl _) B1.out R0.out
   exact bodyPost_ret (AJ _ _ w.heap.size _ _ _ _ rfl rfl g1) rfl ⟨by rw [AN.out];rfl,g2⟩
end Go.Proofs.YtppfalbnhnpbnaaGreatDoor
namespace Go.Proofs.YtppfalbnhnpbnaaGreatDoor
open Go Go.RowKit Ly
set_option maxRecDepth 10000
theorem copyTerm_c (t : Tm) (x : Value) (W : World) (hx0 : dC W t x) (hn : t.nodes ≤ 100000) : Calls Tryz.prog 149 #[x] W (RetH t W):=by
 obtain ⟨a,N,c,rfl,hx⟩:=hx0
 have r1:=heap_alloc_new (W.alloc (.cells #[.bool t.v,str t.name,.slice a N c] 38)) (.cells #[.bool false,str [],.slice none 0 0] 38)
 rw [World.size_alloc] at r1
 have R1:=Lib.hid r1
 have bw : Below W.heap.size W ((W.alloc (.cells #[.bool t.v,str t.name,.slice a N c] 38)).alloc (.cells #[.bool false,str [],.slice none 0 0] 38)):=((Below.refl _ _).alloc (Nat.le_refl _) _).alloc (by simp) _
 have BW:=Lib.hid bw
 have MC : Hid (Calls Tryz.prog 96 #[.agg #[.bool t.v,str t.name,.slice a N c],.func (.func 198) #[] #[]] ((W.alloc (.cells #[.bool t.v,str t.name,.slice a N c] 38)).alloc (.cells #[.bool false,str [],.slice none 0 0] 38)) (RetH t ((W.alloc (.cells #[.bool t.v,str t.name,.slice a N c] 38)).alloc (.cells #[.bool false,str [],.slice none 0 0] 38)))):=by
  have:=tH t _ _ (⟨a,N,c,rfl,hx.keep (aA bw)⟩ : dC ((W.alloc (.cells #[.bool t.v,str t.name,.slice a N c] 38)).alloc (.cells #[.bool false,str [],.slice none 0 0] 38)) t _) trivial hn
  rw [tY] at this
  exact this
 clear hx hn r1 bw
 go_enter Tryz.func149,Tryz.ntmps149
 go_wp2_with (go_at_call 96;refine MC.out.mono ?_;rintro e w5 ⟨v5,rfl,⟨fa,fn,fc,rfl,h5⟩,b5⟩;have H5:=Lib.hid h5;have B5:=Lib.hid b5;have Q5 : Hid (w5.heap[W.heap.size + 1]? = some (.cells #[.bool false,str [],.slice none 0 0] 38 (0,0))):=(b5.block _ (by simp)).trans R1.out;obtain ⟨p0,p1,p2,z0,z1,z2⟩:=row95' Q5.out;clear h5 b5)
 have BA:=aG BW.out B5.out
 obtain ⟨g1,g2,g3⟩:=pG (u:=.bool t.v) (v:=str t.name) (t:=.slice fa fn fc) (b:=W.heap.size + 1) (by omega) BA Q5.out
 refine bodyPost_ret (gJ rfl _ _ (W.heap.size + 1) _ _ _ (0,0) rfl g1) rfl ?_
 refine ⟨.agg #[.bool t.v,str t.name,.slice fa fn fc],rfl,⟨_,_,_,rfl, ?_⟩,g2⟩
 refine H5.out.keep (aH fun k h1 h2=>?_)
 have h3 : W.heap.size + 1 + 1 ≤ k:=by simpa [lo] using h2
 exact ⟨by simp [lo];omega,g3 k (by omega)⟩
def MT97 (q : Nat) (ar : List (Bs × Bs)) (t : Tm) : Prop:=∀ (W : World) (x : Value),dC W t x → kR W q ar → t.nodes ≤ 100000 → Calls Tryz.prog 96 #[x,.func (.func 97) #[] #[one q]] W (RetH (t.swap (arOf ar)) W)
set_option maxHeartbeats 16000000 in
theorem mt_step97 (q : Nat) (ar : List (Bs × Bs)) (har : ar.length ≤ 1000000) (v : Bool) (nm : Bs) (ts : List Tm) (ih : ∀ t ∈ ts,MT97 q ar t) : MT97 q ar (.mk v nm ts):=by
 intro W x hx0 hi hn
 obtain ⟨a,N,c,rfl,hx⟩ : ∃ a N c,x = .agg #[.bool v,str nm,.slice a N c] ∧ bG W ts (.slice a N c):=hx0
 have hl:=hx.len
 have nd : (Tm.mk v nm ts).nodes = 1 + aF ts:=by simp [Tm.nodes]
 rw [nd] at hn
 have N0 : N ≤ 100000:=by rw [hl.1];have:=eO ts;omega
 have N1 : N ≤ 9223372036854775807:=by omega
 have L2:=Lib.hid hl.1
 have HX:=Lib.hid hx
 have HI:=Lib.hid hi
 have HN:=Lib.hid hn
 have IH:=Lib.hid ih
 have CL : Hid (∀ W1,Below W.heap.size W W1 → Calls Tryz.prog 97 #[str nm,one q] W1 fun e w'=>e = .returned (insV ((arOf ar) nm)) ∧ Below W1.heap.size W1 w'):=fun W1 hb=>around_c nm ar q W1 (HI.out.below hb) har
 obtain ⟨W0,hW0⟩ : ∃ W0,(W.alloc (.cells #[.bool v,str nm,.slice a N c] 38)).alloc (.cells #[.bool false,str [],.slice none 0 0] 38) = W0:=⟨_,rfl⟩
 have bw : Below W.heap.size W W0:=by rw [← hW0];exact ((Below.refl _ _).alloc (Nat.le_refl _) _).alloc (by simp) _
 have sz : W0.heap.size = W.heap.size + 1 + 1:=by rw [← hW0];simp
 have r0 : W0.heap[W.heap.size]? = some (.cells #[.bool v,str nm,.slice a N c] 38 (0,0)):=by rw [← hW0];exact aI _ (heap_alloc_new W _)
 have r1 : W0.heap[W.heap.size + 1]? = some (.cells #[.bool false,str [],.slice none 0 0] 38 (0,0)):=by
  rw [← hW0]
  have:=heap_alloc_new (W.alloc (.cells #[.bool v,str nm,.slice a N c] 38)) (.cells #[.bool false,str [],.slice none 0 0] 38)
  rwa [World.size_alloc] at this
 have SZ:=Lib.hid sz
 have R0:=Lib.hid r0
 have R1:=Lib.hid r1
 have BW:=Lib.hid bw
 obtain ⟨y0,y1,y2,-⟩:=row95' r0
 clear hl hx hn hi ih nd bw sz r0 r1
 go_enter Tryz.func96,Tryz.ntmps96
 cases v
 ·have z2 : ∀ o,(W0.alloc o).cell? ⟨W.heap.size,2,none⟩ = some (.slice a N c):=fun o=>(row95' (aI o R0.out)).2.2.1
  go_wp2
  obtain ⟨Wl,hWl⟩ : ∃ Wl,W0.alloc (.cells #[.bool false,str nm,.slice none 0 0] 38) = Wl:=⟨_,rfl⟩
  obtain ⟨R,hR⟩ : ∃ R,W0.heap.size = R:=⟨_,rfl⟩
  have rr : Wl.heap[R]? = some (.cells #[.bool false,str nm,.slice none 0 0] 38 (0,0)):=by rw [← hWl,← hR];exact heap_alloc_new _ _
  have bl : Below W.heap.size W Wl:=by rw [← hWl];exact BW.out.alloc (by have:=SZ.out;omega) _
  have q1 : Wl.heap[W.heap.size + 1]? = some (.cells #[.bool false,str [],.slice none 0 0] 38 (0,0)):=by rw [← hWl];exact aI _ R1.out
  have HR : Hid (W.heap.size + 1 < R):=by rw [← hR,SZ.out];exact Nat.lt_succ_self _
  rw [hWl,hR]
  clear hWl hR z2 CL SZ R0 R1 BW y0 y1 y2 hW0
  have A0 : Hid (ApR Wl R 38 38 3 [.bool false,str nm] [] 0 [] (.slice none 0 0) Wl):=ApR.new rr
  have BL:=Lib.hid bl
  have Q1:=Lib.hid q1
  clear rr bl q1
  go_loopw [30] (fun i wr=>∃ j : Nat,j ≤ N ∧ i = .int .i64 j ∧ Hid (∃ u,ApR Wl R 38 38 3 [.bool false,str nm] [] j (bS ((aO (arOf ar) ts).take j)) u wr)) (fun i _=>N - (intOf i).toNat)
  case atStart=>exact ⟨0,Nat.zero_le _,rfl,_,A0.out⟩
  case round =>
   obtain ⟨j,hj,rfl,hs⟩:=hrel
   obtain ⟨u,hA⟩:=hs.out
   clear hs A0
   have BA : Hid (Below W.heap.size W wr):=BL.out.trans (hA.bw.below (by have:=HR.out;omega) BL.out.size)
   by_cases hlt : j < N
   ·obtain ⟨T,hT⟩:=aT (l:=ts) (j:=j) (by rw [← L2.out];exact hlt)
    obtain ⟨bb,off,rfl,hc⟩:=HX.out.get (aX hT)
    obtain ⟨x0,x1,x2,hx⟩:=hc j _ hT
    have hK:=aA BA.out
    have c0:=hK _ _ hx.c0;have c1:=hK _ _ hx.c1;have c2:=hK _ _ hx.c2
    have HT:=Lib.hid (List.mem_of_getElem? hT)
    have TW : Hid (bS ((aO (arOf ar) ts).take (j + 1)) = bS ((aO (arOf ar) ts).take j) ++ (T.swap (arOf ar)).ds):=gZ _ (gB (arOf ar) ts hT)
    have IC : Hid (∀ w',Below W.heap.size W w' → Calls Tryz.prog 96 #[.agg #[.bool T.v,str T.name,.slice x0 x1 x2],.func (.func 97) #[] #[one q]] w' (RetH (T.swap (arOf ar)) w')):=fun w' hb=>IH.out T HT.out w' _ ⟨_,_,_,rfl,hx.at_.keep (aA hb)⟩ (HI.out.below hb) (by have:=eH HT.out;have:=HN.out;omega)
    clear hc hx hT hK
    obtain ⟨ua,uc,rfl⟩:=hA.form
    have AA:=Lib.hid hA
    have RL : Hid (R < wr.heap.size):=(Array.getElem?_eq_some_iff.1 hA.r).1
    clear hA
    obtain ⟨i0,hi0,hz0,hs0,hb0⟩:=info_parts mQ
    go_upto_region 9 with fail
    refine wp_region_held_drew (S:=fun w'=>w'.heap[wr.heap.size]? = some (.cells #[.bool T.v,str T.name,.slice x0 x1 x2] 38 (0,0))) (by kernel_rfl) (heap_alloc_new wr _) (fun hHeld=>?_)
    refine wpAnyH_take (i:=0) (v:=?_) rfl (by kernel_rfl) (by kernel_rfl) (by kernel_rfl) (fun _ _ _ h=>h) (Or.inl ⟨by rfl, ?_⟩) (by assumption) ?_
    rotate_left
    ·(intro w0 hSw;go_simp;(try with_reducible rfl))
    try simp only [Act.put,List.getElem_toArray,List.getElem_cons_succ,List.getElem_cons_zero,List.setIfInBounds_toArray,List.set_cons_zero,List.set_cons_succ]
    refine wpAnyH_take (i:=2) (v:=?_) rfl (by kernel_rfl) (by kernel_rfl) (by kernel_rfl) (fun _ _ _ h=>h) (Or.inl ⟨by rfl, ?_⟩) (by assumption) ?_
    rotate_left
    ·(intro w0 hSw;obtain ⟨z0,z1,z2,-⟩:=row95' hSw;go_simp;(try with_reducible rfl))
    try simp only [Act.put,List.getElem_toArray,List.getElem_cons_succ,List.getElem_cons_zero,List.setIfInBounds_toArray,List.set_cons_zero,List.set_cons_succ]
    refine wpAnyH_take (i:=3) (v:=?_) rfl (by kernel_rfl) (by kernel_rfl) (by kernel_rfl) (fun _ _ _ h=>h) (Or.inl ⟨by rfl, ?_⟩) (by assumption) ?_
    rotate_left
    ·(intro w0 hSw;go_simp;(try with_reducible rfl))
    try simp only [Act.put,List.getElem_toArray,List.getElem_cons_succ,List.getElem_cons_zero,List.setIfInBounds_toArray,List.set_cons_zero,List.set_cons_succ]
    refine iF (i:=1) (T:=fun w'=>w'.heap[R]? = some (.cells #[.bool false,str nm,.slice ua j uc] 38 (0,0))) (v:=?_) rfl (by kernel_rfl) (by kernel_rfl) (by kernel_rfl) (fun _ _ _ h=>h) (Or.inl ⟨by rfl, ?_⟩) (by assumption) (aI _ AA.out.r) ?_
    rotate_left
    ·(intro w0 hSw;obtain ⟨-,-,z2,-⟩:=row95' hSw.2;go_simp;(try with_reducible rfl))
    try simp only [Act.put,List.getElem_toArray,List.getElem_cons_succ,List.getElem_cons_zero,List.setIfInBounds_toArray,List.set_cons_zero,List.set_cons_succ]
    refine fB (j:=4) (by kernel_rfl) (by kernel_rfl) rfl (fun K hK=>?_)
    go_simp
    go_at_call 96
    refine (IC.out _ (BA.out.trans ((Below.refl _ _).alloc BA.out.size _)).drew).mono ?_
    rintro e w3 ⟨v3,rfl,⟨fa,fn,fc,rfl,h3⟩,b3⟩
    have hS3:=(b3.block wr.heap.size (by simp)).trans hHeld
    have hT3:=(b3.block R (by have:=RL.out;simp;omega)).trans (aI _ AA.out.r)
    have HB3 : Hid (Below (wr.alloc (.cells #[.bool T.v,str T.name,.slice x0 x1 x2] 38)).drew.heap.size (wr.alloc (.cells #[.bool T.v,str T.name,.slice x0 x1 x2] 38)).drew w3):=b3
    have H3 : Hid (bG (hide (lo (wr.alloc (.cells #[.bool T.v,str T.name,.slice x0 x1 x2] 38)).drew) w3) (T.swap (arOf ar)).args (.slice fa fn fc)):=h3
    clear h3 b3 hHeld IC
    go_simp
    refine hK.out _ _ hS3 hT3 (fun hHeld hHeldT=>?_)
    clear hK K hS3 hT3
    try simp only [Act.put,List.getElem_toArray,List.getElem_cons_succ,List.getElem_cons_zero,List.setIfInBounds_toArray,List.set_cons_zero,List.set_cons_succ]
    refine fB (j:=5) (by kernel_rfl) (by kernel_rfl) rfl (fun K hK=>?_)
    go_simp
    obtain ⟨xs,ow,ob,or5,fin⟩:=AA.out.step (tb:=38) ((Below.refl _ _).alloc (Nat.le_refl _) _).drew HB3.out (fM H3.out)
    have OW:=Lib.hid ow
    have OB:=Lib.hid ob
    have FIN:=Lib.hid fin
    clear ow fin ob
    have hS4:=aI (.cells #[.bool (T.swap (arOf ar)).v,str (T.swap (arOf ar)).name,.slice fa fn fc] 38) hHeld
    refine hK.out _ _ hS4 or5 (fun hHeld2 hHeldT2=>?_)
    clear hK K hS4 or5 hHeld hHeldT
    try simp only [Act.put,List.getElem_toArray,List.getElem_cons_succ,List.getElem_cons_zero,List.setIfInBounds_toArray,List.set_cons_zero,List.set_cons_succ]
    refine jE (j:=6) (by kernel_rfl) (by kernel_rfl) rfl (fun K hK=>?_)
    refine bT rfl _ _ 36 rfl Wl.heap.size 38 i0 (.agg #[.bool false,.string ⟨#[]⟩,.slice none 0 0]) 3 48 Tryz.underlying36 hi0 hz0 hs0 hb0 rfl (by decide) _ j xs (by rfl) OW.out ⟨w3.heap.size,0,none⟩ 1 1 [.bool (T.swap (arOf ar)).v,str (T.swap (arOf ar)).name,.slice fa fn fc] (by rfl) rfl (wA _ _ _ _ _) jU (by unfold maxLen;omega) (by omega) OB.out ?_
    intro v5 w5 h5 hg5 hat5
    obtain ⟨r5,⟨va,vc,rfl⟩,A5⟩:=FIN.out v5 w5 h5 hg5 hat5
    have A6:=Lib.hid A5
    have R5:=Lib.hid r5
    have hS5:=(hg5.block wr.heap.size (by have:=HB3.out.size;simp at this;simp;omega) (fun e=>by have:=(fE AA.out.own _ e.symm).2;omega)).trans hHeld2
    clear h5 hg5 hat5 A5 r5 FIN OW
    refine hK.out _ _ hS5 (fun hHeld3=>?_)
    clear hK K hS5 hHeld2 hHeldT2
    try simp only [Act.put,List.getElem_toArray,List.getElem_cons_succ,List.getElem_cons_zero,List.setIfInBounds_toArray,List.set_cons_zero,List.set_cons_succ]
    refine wpAnyH_take (i:=7) (v:=?_) rfl (by kernel_rfl) (by kernel_rfl) (by kernel_rfl) (fun _ _ _ h=>h) (Or.inl ⟨by rfl, ?_⟩) (by assumption) ?_
    rotate_left
    ·(intro w0 hSw;go_simp;(try with_reducible rfl))
    try simp only [Act.put,List.getElem_toArray,List.getElem_cons_succ,List.getElem_cons_zero,List.setIfInBounds_toArray,List.set_cons_zero,List.set_cons_succ]
    refine wpAnyH_ready (rs:=[8]) (by kernel_rfl) (by simp) ?_
    refine AllReadyH.cons rfl (fun K hK=>?_) AllReadyH.nil
    obtain ⟨-,-,z2,-,-,f2⟩:=row95' R5.out
    go_simp
    have A7:=A6.out _ rfl
    have hS6:=(Below.heap_setCell w5 ⟨R,2,none⟩ (.slice va (j + 1) vc) wr.heap.size (by have:=RL.out;show wr.heap.size ≠ R;omega)).trans hHeld3
    refine hK.out _ _ hS6 (fun hHeld4=>?_)
    clear hK K hS6 hHeld3
    try simp only [Act.put,List.getElem_toArray,List.getElem_cons_succ,List.getElem_cons_zero,List.setIfInBounds_toArray,List.set_cons_zero,List.set_cons_succ]
    refine wpAnyH_done (by kernel_rfl) ?_ _
    go_wp2_with fail
    go_roundw
    case rel=>exact ⟨j + 1,by omega,by go_num,_,by rw [TW.out];exact A7⟩
    case measure=>simp [intOf];omega
   ·obtain ⟨ua,uc,rfl⟩:=hA.form
    have e : (aO (arOf ar) ts).take j = aO (arOf ar) ts:=List.take_of_length_le (by rw [cR,← L2.out];omega)
    have EJ : Hid (j = N):=by show j = N;omega
    rw [e] at hA
    obtain ⟨y0,y1,y2,-⟩:=row95' hA.r
    have q2 : wr.heap[W.heap.size + 1]? = some (.cells #[.bool false,str [],.slice none 0 0] 38 (0,0)):=(hA.bw.block _ (Array.getElem?_eq_some_iff.1 Q1.out).1 (by have:=HR.out;omega)).trans Q1.out
    obtain ⟨p0,p1,p2,z0,z1,z2⟩:=row95' q2
    have AA:=Lib.hid hA
    have Q2:=Lib.hid q2
    clear hA q2 e
    go_wp2_with fail
    obtain ⟨g1,g2,g3⟩:=pG (u:=.bool false) (v:=str nm) (t:=.slice ua j uc) (b:=W.heap.size + 1) (by omega) BA.out Q2.out
    refine bodyPost_ret (gJ rfl _ _ (W.heap.size + 1) _ _ _ (0,0) rfl g1) rfl ?_
    refine ⟨.agg #[.bool false,str nm,.slice ua j uc],rfl, ?_,g2⟩
    rw [show (Tm.mk false nm ts).swap (arOf ar) = .mk false nm (aO (arOf ar) ts) by simp [Tm.swap]]
    refine ⟨_,_,_,rfl, ?_⟩
    have:=AA.out.at
    have lj : j = (aO (arOf ar) ts).length:=by rw [cR,← L2.out];exact EJ.out
    show At _ (.sl 3 (aO (arOf ar) ts).length (bS (aO (arOf ar) ts))) (.slice ua j uc)
    rw [← lj]
    refine At.keep (aH fun k h1 h2=>?_) _ _ this
    have hk : Wl.heap.size ≤ k:=by simpa [lo] using h2
    have:=HR.out
    have:=AA.out.lt
    exact ⟨by simp [lo];omega,g3 k (by omega)⟩
 ·cases ho : (arOf ar) nm with
  | none =>
   rw [ho] at CL
   have CLN : Hid (∀ W1,Below W.heap.size W W1 → Calls Tryz.prog 97 #[str nm,one q] W1 fun e w'=>e = .returned (.tuple #[.agg #[.bool false,str [],.slice none 0 0],.bool false]) ∧ Below W1.heap.size W1 w'):=CL
   clear CL
   have SN : Hid ((Tm.mk true nm ts).swap (arOf ar) = .mk true nm (aO (arOf ar) ts)):=by show _ = _;simp [Tm.swap,ho]
   clear ho
   have NX : Hid (∀ w2,Below W0.heap.size W0 w2 → ∀ o o',((w2.alloc o).alloc o').cell? ⟨W.heap.size,2,none⟩ = some (.slice a N c) ∧ (w2.alloc o).cell? ⟨W.heap.size,0,none⟩ = some (.bool true) ∧ (w2.alloc o).cell? ⟨W.heap.size,1,none⟩ = some (str nm)):=fun w2 hb o o'=>by
    have g:=(hb.block _ (by have:=SZ.out;omega)).trans R0.out
    exact ⟨(row95' (aI o' (aI o g))).2.2.1,(row95' (aI o g)).1,(row95' (aI o g)).2.1⟩
   go_wp2_with (go_at_call 97;refine (CLN.out _ BW.out).mono ?_;rintro e w2 ⟨rfl,b2⟩;have B2:=Lib.hid b2;have nx:=NX.out _ b2;obtain ⟨p0,p1,p2⟩ : (∀ o o',((w2.alloc o).alloc o').cell? ⟨W.heap.size,2,none⟩ = some (.slice a N c)) ∧ (∀ o,(w2.alloc o).cell? ⟨W.heap.size,0,none⟩ = some (.bool true)) ∧ (∀ o,(w2.alloc o).cell? ⟨W.heap.size,1,none⟩ = some (str nm)):=⟨fun o o'=>(nx o o').1,fun o=>(nx o o).2.1,fun o=>(nx o o).2.2⟩;clear b2 nx NX CLN y0 y1 y2)
   obtain ⟨Wl,hWl⟩ : ∃ Wl,(w2.alloc (.cells #[.bool false,str [],.slice none 0 0] 38)).alloc (.cells #[.bool true,str nm,.slice none 0 0] 38) = Wl:=⟨_,rfl⟩
   obtain ⟨R,hR⟩ : ∃ R,w2.heap.size + 1 = R:=⟨_,rfl⟩
   have rr : Wl.heap[R]? = some (.cells #[.bool true,str nm,.slice none 0 0] 38 (0,0)):=by
    rw [← hWl,← hR]
    have:=heap_alloc_new (w2.alloc (.cells #[.bool false,str [],.slice none 0 0] 38)) (.cells #[.bool true,str nm,.slice none 0 0] 38)
    rwa [World.size_alloc] at this
   have b4 : Below W0.heap.size W0 Wl:=by rw [← hWl];exact (B2.out.alloc B2.out.size _).alloc (by have:=B2.out.size;simp;omega) _
   have bl : Below W.heap.size W Wl:=BW.out.trans (b4.mono BW.out.size)
   have q1 : Wl.heap[W.heap.size + 1]? = some (.cells #[.bool false,str [],.slice none 0 0] 38 (0,0)):=(b4.block _ (by have:=SZ.out;omega)).trans R1.out
   have HR : Hid (W.heap.size + 1 < R):=by show _ < _;have:=B2.out.size;have:=SZ.out;omega
   rw [hWl,hR]
   clear hWl hR p0 p1 p2 b4 SZ R0 R1 BW B2 hW0
   have A0 : Hid (ApR Wl R 38 38 3 [.bool true,str nm] [] 0 [] (.slice none 0 0) Wl):=ApR.new rr
   have BL:=Lib.hid bl
   have Q1:=Lib.hid q1
   clear rr bl q1
   go_loopw [30] (fun i wr=>∃ j : Nat,j ≤ N ∧ i = .int .i64 j ∧ Hid (∃ u,ApR Wl R 38 38 3 [.bool true,str nm] [] j (bS ((aO (arOf ar) ts).take j)) u wr)) (fun i _=>N - (intOf i).toNat)
   case atStart=>exact ⟨0,Nat.zero_le _,rfl,_,A0.out⟩
   case round =>
    obtain ⟨j,hj,rfl,hs⟩:=hrel
    obtain ⟨u,hA⟩:=hs.out
    clear hs A0
    have BA : Hid (Below W.heap.size W wr):=BL.out.trans (hA.bw.below (by have:=HR.out;omega) BL.out.size)
    by_cases hlt : j < N
    ·obtain ⟨T,hT⟩:=aT (l:=ts) (j:=j) (by rw [← L2.out];exact hlt)
     obtain ⟨bb,off,rfl,hc⟩:=HX.out.get (aX hT)
     obtain ⟨x0,x1,x2,hx⟩:=hc j _ hT
     have hK:=aA BA.out
     have c0:=hK _ _ hx.c0;have c1:=hK _ _ hx.c1;have c2:=hK _ _ hx.c2
     have HT:=Lib.hid (List.mem_of_getElem? hT)
     have TW : Hid (bS ((aO (arOf ar) ts).take (j + 1)) = bS ((aO (arOf ar) ts).take j) ++ (T.swap (arOf ar)).ds):=gZ _ (gB (arOf ar) ts hT)
     have IC : Hid (∀ w',Below W.heap.size W w' → Calls Tryz.prog 96 #[.agg #[.bool T.v,str T.name,.slice x0 x1 x2],.func (.func 97) #[] #[one q]] w' (RetH (T.swap (arOf ar)) w')):=fun w' hb=>IH.out T HT.out w' _ ⟨_,_,_,rfl,hx.at_.keep (aA hb)⟩ (HI.out.below hb) (by have:=eH HT.out;have:=HN.out;omega)
     clear hc hx hT hK
     obtain ⟨ua,uc,rfl⟩:=hA.form
     have AA:=Lib.hid hA
     have RL : Hid (R < wr.heap.size):=(Array.getElem?_eq_some_iff.1 hA.r).1
     clear hA
     obtain ⟨i0,hi0,hz0,hs0,hb0⟩:=info_parts mQ
     go_upto_region 9 with fail
     refine wp_region_held_drew (S:=fun w'=>w'.heap[wr.heap.size]? = some (.cells #[.bool T.v,str T.name,.slice x0 x1 x2] 38 (0,0))) (by kernel_rfl) (heap_alloc_new wr _) (fun hHeld=>?_)
     refine wpAnyH_take (i:=0) (v:=?_) rfl (by kernel_rfl) (by kernel_rfl) (by kernel_rfl) (fun _ _ _ h=>h) (Or.inl ⟨by rfl, ?_⟩) (by assumption) ?_
     rotate_left
     ·(intro w0 hSw;go_simp;(try with_reducible rfl))
     try simp only [Act.put,List.getElem_toArray,List.getElem_cons_succ,List.getElem_cons_zero,List.setIfInBounds_toArray,List.set_cons_zero,List.set_cons_succ]
     refine wpAnyH_take (i:=2) (v:=?_) rfl (by kernel_rfl) (by kernel_rfl) (by kernel_rfl) (fun _ _ _ h=>h) (Or.inl ⟨by rfl, ?_⟩) (by assumption) ?_
     rotate_left
     ·(intro w0 hSw;obtain ⟨z0,z1,z2,-⟩:=row95' hSw;go_simp;(try with_reducible rfl))
     try simp only [Act.put,List.getElem_toArray,List.getElem_cons_succ,List.getElem_cons_zero,List.setIfInBounds_toArray,List.set_cons_zero,List.set_cons_succ]
     refine wpAnyH_take (i:=3) (v:=?_) rfl (by kernel_rfl) (by kernel_rfl) (by kernel_rfl) (fun _ _ _ h=>h) (Or.inl ⟨by rfl, ?_⟩) (by assumption) ?_
     rotate_left
     ·(intro w0 hSw;go_simp;(try with_reducible rfl))
     try simp only [Act.put,List.getElem_toArray,List.getElem_cons_succ,List.getElem_cons_zero,List.setIfInBounds_toArray,List.set_cons_zero,List.set_cons_succ]
     refine iF (i:=1) (T:=fun w'=>w'.heap[R]? = some (.cells #[.bool true,str nm,.slice ua j uc] 38 (0,0))) (v:=?_) rfl (by kernel_rfl) (by kernel_rfl) (by kernel_rfl) (fun _ _ _ h=>h) (Or.inl ⟨by rfl, ?_⟩) (by assumption) (aI _ AA.out.r) ?_
     rotate_left
     ·(intro w0 hSw;obtain ⟨-,-,z2,-⟩:=row95' hSw.2;go_simp;(try with_reducible rfl))
     try simp only [Act.put,List.getElem_toArray,List.getElem_cons_succ,List.getElem_cons_zero,List.setIfInBounds_toArray,List.set_cons_zero,List.set_cons_succ]
     refine fB (j:=4) (by kernel_rfl) (by kernel_rfl) rfl (fun K hK=>?_)
     go_simp
     go_at_call 96
     refine (IC.out _ (BA.out.trans ((Below.refl _ _).alloc BA.out.size _)).drew).mono ?_
     rintro e w3 ⟨v3,rfl,⟨fa,fn,fc,rfl,h3⟩,b3⟩
     have hS3:=(b3.block wr.heap.size (by simp)).trans hHeld
     have hT3:=(b3.block R (by have:=RL.out;simp;omega)).trans (aI _ AA.out.r)
     have HB3 : Hid (Below (wr.alloc (.cells #[.bool T.v,str T.name,.slice x0 x1 x2] 38)).drew.heap.size (wr.alloc (.cells #[.bool T.v,str T.name,.slice x0 x1 x2] 38)).drew w3):=b3
     have H3 : Hid (bG (hide (lo (wr.alloc (.cells #[.bool T.v,str T.name,.slice x0 x1 x2] 38)).drew) w3) (T.swap (arOf ar)).args (.slice fa fn fc)):=h3
     clear h3 b3 hHeld IC
     go_simp
     refine hK.out _ _ hS3 hT3 (fun hHeld hHeldT=>?_)
     clear hK K hS3 hT3
     try simp only [Act.put,List.getElem_toArray,List.getElem_cons_succ,List.getElem_cons_zero,List.setIfInBounds_toArray,List.set_cons_zero,List.set_cons_succ]
     refine fB (j:=5) (by kernel_rfl) (by kernel_rfl) rfl (fun K hK=>?_)
     go_simp
     obtain ⟨xs,ow,ob,or5,fin⟩:=AA.out.step (tb:=38) ((Below.refl _ _).alloc (Nat.le_refl _) _).drew HB3.out (fM H3.out)
     have OW:=Lib.hid ow
     have OB:=Lib.hid ob
     have FIN:=Lib.hid fin
     clear ow fin ob
     have hS4:=aI (.cells #[.bool (T.swap (arOf ar)).v,str (T.swap (arOf ar)).name,.slice fa fn fc] 38) hHeld
     refine hK.out _ _ hS4 or5 (fun hHeld2 hHeldT2=>?_)
     clear hK K hS4 or5 hHeld hHeldT
     try simp only [Act.put,List.getElem_toArray,List.getElem_cons_succ,List.getElem_cons_zero,List.setIfInBounds_toArray,List.set_cons_zero,List.set_cons_succ]
     refine jE (j:=6) (by kernel_rfl) (by kernel_rfl) rfl (fun K hK=>?_)
     refine bT rfl _ _ 36 rfl Wl.heap.size 38 i0 (.agg #[.bool false,.string ⟨#[]⟩,.slice none 0 0]) 3 48 Tryz.underlying36 hi0 hz0 hs0 hb0 rfl (by decide) _ j xs (by rfl) OW.out ⟨w3.heap.size,0,none⟩ 1 1 [.bool (T.swap (arOf ar)).v,str (T.swap (arOf ar)).name,.slice fa fn fc] (by rfl) rfl (wA _ _ _ _ _) jU (by unfold maxLen;omega) (by omega) OB.out ?_
     intro v5 w5 h5 hg5 hat5
     obtain ⟨r5,⟨va,vc,rfl⟩,A5⟩:=FIN.out v5 w5 h5 hg5 hat5
     have A6:=Lib.hid A5
     have R5:=Lib.hid r5
     have hS5:=(hg5.block wr.heap.size (by have:=HB3.out.size;simp at this;simp;omega) (fun e=>by have:=(fE AA.out.own _ e.symm).2;omega)).trans hHeld2
     clear h5 hg5 hat5 A5 r5 FIN OW
     refine hK.out _ _ hS5 (fun hHeld3=>?_)
     clear hK K hS5 hHeld2 hHeldT2
     try simp only [Act.put,List.getElem_toArray,List.getElem_cons_succ,List.getElem_cons_zero,List.setIfInBounds_toArray,List.set_cons_zero,List.set_cons_succ]
     refine wpAnyH_take (i:=7) (v:=?_) rfl (by kernel_rfl) (by kernel_rfl) (by kernel_rfl) (fun _ _ _ h=>h) (Or.inl ⟨by rfl, ?_⟩) (by assumption) ?_
     rotate_left
     ·(intro w0 hSw;go_simp;(try with_reducible rfl))
     try simp only [Act.put,List.getElem_toArray,List.getElem_cons_succ,List.getElem_cons_zero,List.setIfInBounds_toArray,List.set_cons_zero,List.set_cons_succ]
     refine wpAnyH_ready (rs:=[8]) (by kernel_rfl) (by simp) ?_
     refine AllReadyH.cons rfl (fun K hK=>?_) AllReadyH.nil
     obtain ⟨-,-,z2,-,-,f2⟩:=row95' R5.out
     go_simp
     have A7:=A6.out _ rfl
     have hS6:=(Below.heap_setCell w5 ⟨R,2,none⟩ (.slice va (j + 1) vc) wr.heap.size (by have:=RL.out;show wr.heap.size ≠ R;omega)).trans hHeld3
     refine hK.out _ _ hS6 (fun hHeld4=>?_)
     clear hK K hS6 hHeld3
     try simp only [Act.put,List.getElem_toArray,List.getElem_cons_succ,List.getElem_cons_zero,List.setIfInBounds_toArray,List.set_cons_zero,List.set_cons_succ]
     refine wpAnyH_done (by kernel_rfl) ?_ _
     go_wp2_with fail
     go_roundw
     case rel=>exact ⟨j + 1,by omega,by go_num,_,by rw [TW.out];exact A7⟩
     case measure=>simp [intOf];omega
    ·obtain ⟨ua,uc,rfl⟩:=hA.form
     have e : (aO (arOf ar) ts).take j = aO (arOf ar) ts:=List.take_of_length_le (by rw [cR,← L2.out];omega)
     have EJ : Hid (j = N):=by show j = N;omega
     rw [e] at hA
     obtain ⟨y0,y1,y2,-⟩:=row95' hA.r
     have q2 : wr.heap[W.heap.size + 1]? = some (.cells #[.bool false,str [],.slice none 0 0] 38 (0,0)):=(hA.bw.block _ (Array.getElem?_eq_some_iff.1 Q1.out).1 (by have:=HR.out;omega)).trans Q1.out
     obtain ⟨p0,p1,p2,z0,z1,z2⟩:=row95' q2
     have AA:=Lib.hid hA
     have Q2:=Lib.hid q2
     clear hA q2 e
     go_wp2_with fail
     obtain ⟨g1,g2,g3⟩:=pG (u:=.bool true) (v:=str nm) (t:=.slice ua j uc) (b:=W.heap.size + 1) (by omega) BA.out Q2.out
     refine bodyPost_ret (gJ rfl _ _ (W.heap.size + 1) _ _ _ (0,0) rfl g1) rfl ?_
     refine ⟨.agg #[.bool true,str nm,.slice ua j uc],rfl, ?_,g2⟩
     rw [SN.out]
     refine ⟨_,_,_,rfl, ?_⟩
     have:=AA.out.at
     have lj : j = (aO (arOf ar) ts).length:=by rw [cR,← L2.out];exact EJ.out
     show At _ (.sl 3 (aO (arOf ar) ts).length (bS (aO (arOf ar) ts))) (.slice ua j uc)
     rw [← lj]
     refine At.keep (aH fun k h1 h2=>?_) _ _ this
     have hk : Wl.heap.size ≤ k:=by simpa [lo] using h2
     have:=HR.out
     have:=AA.out.lt
     exact ⟨by simp [lo];omega,g3 k (by omega)⟩
  | some m =>
   rw [ho] at CL
   have CLN : Hid (∀ W1,Below W.heap.size W W1 → Calls Tryz.prog 97 #[str nm,one q] W1 fun e w'=>e = .returned (.tuple #[.agg #[.bool true,str m,.slice none 0 0],.bool true]) ∧ Below W1.heap.size W1 w'):=CL
   clear CL
   have SN : Hid ((Tm.mk true nm ts).swap (arOf ar) = .mk true m []):=by show _ = _;simp [Tm.swap,ho]
   clear ho y2
   go_wp2_with (first
    | (go_at_call 97;refine (CLN.out _ BW.out).mono ?_;rintro e w2 ⟨rfl,b2⟩;have B2:=Lib.hid b2;clear b2 CLN y0 y1)
    | (go_at_call 149;refine (copyTerm_c (.mk true m []) _ _ (by exact ⟨none,0,0,rfl,At.sl_nil (Nat.zero_le _)⟩) (by simp [Tm.nodes,aF])).mono ?_;rintro e w5 ⟨v5,rfl,⟨fa,fn,fc,rfl,h5⟩,b5⟩;have H5:=Lib.hid h5;have B5 : Hid (Below W0.heap.size W0 w5):=aG B2.out (bV b5);have Q5 : Hid (w5.heap[W.heap.size + 1]? = some (.cells #[.bool false,str [],.slice none 0 0] 38 (0,0))):=(B5.out.block _ (by have:=SZ.out;omega)).trans R1.out;obtain ⟨p0,p1,p2,z0,z1,z2⟩:=row95' Q5.out;clear h5 b5))
   have BA:=BW.out.trans (B5.out.mono BW.out.size)
   obtain ⟨g1,g2,g3⟩:=pG (u:=.bool true) (v:=str m) (t:=.slice fa fn fc) (b:=W.heap.size + 1) (by omega) BA Q5.out
   refine bodyPost_ret (gJ rfl _ _ (W.heap.size + 1) _ _ _ (0,0) rfl g1) rfl ?_
   refine ⟨.agg #[.bool true,str m,.slice fa fn fc],rfl, ?_,g2⟩
   rw [SN.out]
   refine ⟨_,_,_,rfl, ?_⟩
   refine H5.out.keep (aH fun k h1 h2=>?_)
   have h3 : w2.heap.size + 1 ≤ k:=by simpa [lo] using h2
   have:=B2.out.size
   have:=SZ.out
   exact ⟨by simp [lo];omega,g3 k (by omega)⟩
mutual
theorem vZ (q : Nat) (ar : List (Bs × Bs)) (har : ar.length ≤ 1000000) : ∀ t : Tm,MT97 q ar t
 | .mk v nm ts=>mt_step97 q ar har v nm ts (tI q ar har ts)
theorem tI (q : Nat) (ar : List (Bs × Bs)) (har : ar.length ≤ 1000000) : ∀ ts : List Tm,∀ t ∈ ts,MT97 q ar t
 | [],_,h=>by cases h
 | x :: xs,t,h=>by
  rcases List.mem_cons.1 h with e | e
  ·rw [e];exact vZ q ar har x
  ·exact tI q ar har xs t e
end
end Go.Proofs.YtppfalbnhnpbnaaGreatDoor
