/- skeleton.Classes at claims that have a skeleton: for each one the first one with the same text. Conditions: those of each statement; the tables lie as laid. -/
import Derived.Test.YtppfalbnhnpbnaaGreatDoorWtIC
import Derived.Test.YtppfalbnhnpbnaaGreatDoorSkVC
import Derived.Maps.AppendAt
import Derived.Test.YtppfalbnhnpbnaaGreatDoorAwAC
import Derived.Test.YtppfalbnhnpbnaaGreatDoorWtAC
set_option linter.unusedSimpArgs false
set_option linter.unusedVariables false
namespace Go.Proofs.YtppfalbnhnpbnaaGreatDoor
open Go Go.RowKit Ly
set_option maxRecDepth 10000
def sqDs (p : List Fm × List Fm) : List D:=[.sl 4 p.1.length (bJ p.1),.sl 4 p.2.length (bJ p.2)]
def cZ : List (List Fm × List Fm) → List D
 | []=>[]
 | p :: l=>sqDs p ++ cZ l
def iK (w : World) (l : List (List Fm × List Fm)) (u : Value) : Prop:=At w (.sl 2 l.length (cZ l)) u
theorem iK.keep {w w' : World} {l : List (List Fm × List Fm)} {u : Value} (h : iK w l u) (k : bI w w') : iK w' l u:=At.keep k _ _ h
theorem iK.len {w : World} {l : List (List Fm × List Fm)} {a : Option Addr} {n c : Nat} (h : iK w l (.slice a n c)) : n = l.length ∧ n ≤ c ∧ c ≤ maxLen:=by
 obtain ⟨a',cap,e,h1,h2,_⟩:=h
 simp only [Value.slice.injEq] at e
 obtain ⟨_,rfl,rfl⟩:=e
 exact ⟨rfl,h1,h2⟩
theorem tX (l : List (List Fm × List Fm)) (i : Nat) (t : List Fm × List Fm) (h : l[i]? = some t) (j : Nat) (hj : j < 2) : (cZ l)[i * 2 + j]? = (sqDs t)[j]? :=
 lJ sqDs cZ 2 (fun _=>rfl) rfl (fun _ _=>rfl) l i t h j hj
theorem iK.get {w : World} {l : List (List Fm × List Fm)} {a : Option Addr} {n c : Nat} (h : iK w l (.slice a n c)) (hn : l ≠ []) :
  ∃ b off,a = some ⟨b,off,none⟩ ∧ ∀ (i : Nat) (f : List Fm × List Fm),l[i]? = some f → ∃ x k e y m d,w.cell? ⟨b,off + i * 2,none⟩ = some (.slice x k e) ∧ w.cell? ⟨b,off + i * 2 + 1,none⟩ = some (.slice y m d) ∧ aN w f.1 (.slice x k e) ∧ aN w f.2 (.slice y m d):=by
 obtain ⟨a',cap,e,_,_,_,h5⟩:=At.sl_inv h
 simp only [Value.slice.injEq] at e
 obtain ⟨rfl,rfl,rfl⟩:=e
 rcases h5 with h5 | ⟨b,off,rfl,h5⟩
 ·exact absurd (List.eq_nil_of_length_eq_zero h5) hn
 ·refine ⟨b,off,rfl,fun i t ht=>?_⟩
  obtain ⟨u0,k0,p0⟩:=h5 (i * 2) (.sl 4 t.1.length (bJ t.1)) (tX l i _ ht 0 (by omega))
  obtain ⟨u1,k1,p1⟩:=h5 (i * 2 + 1) (.sl 4 t.2.length (bJ t.2)) (tX l i _ ht 1 (by omega))
  obtain ⟨x,k,e,rfl⟩:=aN.slice (w:=w) (l:=t.1) p0
  obtain ⟨y,m,d,rfl⟩:=aN.slice (w:=w) (l:=t.2) p1
  exact ⟨x,k,e,y,m,d,k0,by rw [Nat.add_assoc];exact k1,p0,p1⟩
def gH (p : List Fm × List Fm) : Bs:=kC (skOf p.1 p.2).1 (skOf p.1 p.2).2
def keysOf (cs : List (List Fm × List Fm)) : List Bs:=cs.map gH
def kN (cs : List (List Fm × List Fm)) : List Int:=(keysOf cs).map fun s=>(((keysOf cs).idxOf s : Nat) : Int)
theorem zP {L R : List Fm} (k : okSq L R) : okSq (skOf L R).1 (skOf L R).2:=by
 have SL:=nZ L R
 have k1:=k.2.2.1
 have k2:=k.2.2.2
 exact ⟨wK k.1 (R:=R) (by omega),tU k.1 k.2.1 (by omega),by omega,by omega⟩
theorem key_len {L R : List Fm} (k : okSq L R) : (gH (L,R)).length ≤ maxLen:=by
 have h:=zP k
 have a:=gW h.1
 have b:=gW h.2.1
 have c:=h.2.2.1
 have d:=h.2.2.2
 simp only [gH,kC,List.length_append,List.length_cons]
 unfold maxLen
 omega
theorem tG : ∀ (ks : List Bs) (j : Nat) (s : Bs),ks[j]? = some s → s ∉ ks.take j → ks.idxOf s = j
 | [],_,_,h,_=>by simp at h
 | x :: l,0,s,h,_=>by simp at h;subst h;simp
 | x :: l,j + 1,s,h,hn=>by
  simp only [List.take_succ_cons,List.mem_cons,not_or] at hn
  have e : (x == s) = false:=by rw [beq_eq_false_iff_ne];exact fun e=>hn.1 e.symm
  rw [List.idxOf_cons,e,tG l j s (by simpa using h) hn.2]
  rfl
theorem mU {B n : Nat} {v : Value} {xs : List Value} {w w' : World} (h : w.ownsRow B 3 1 v n xs) (hb : Below w.heap.size w w') : w'.ownsRow B 3 1 v n xs:=by
 refine ⟨h.1, ?_⟩
 rcases h.2 with h0 | ⟨g,cap,cur,e,h1,h2,rest⟩
 ·exact .inl h0
 ·exact .inr ⟨g,cap,cur,e,h1,(hb.block _ (Array.getElem?_eq_some_iff.1 h2).1).trans h2,rest⟩
theorem mV {B n M : Nat} {v : Value} {xs : List Value} {w : World} (h : w.ownsRow B 3 1 v n xs) (hm : ∃ es c,w.heap[M]? = some (.map es c)) : v.ownBlock = none ∨ v.ownBlock ≠ some M:=by
 rcases h.2 with ⟨rfl,_⟩ | ⟨g,cap,cur,rfl,h1,h2,rest⟩
 ·exact .inl rfl
 ·refine .inr fun e=>?_
  obtain ⟨es,c,hm⟩:=hm
  simp only [Value.ownBlock,Option.some.injEq] at e
  subst e
  rw [h2] at hm
  cases hm
structure ClsT (W : World) (ks : List Bs) (M j : Nat) (U : Value) (X : World) : Prop where
 bw : Below W.heap.size W X
 hM : W.heap.size ≤ M
 map : MapG Tryz.prog 9 okS litS (.int .i64 0) X M j (fun s=>decide (s ∈ ks.take j)) (fun s=>if s ∈ ks.take j then .int .i64 (ks.idxOf s : Nat) else .int .i64 0)
 own : X.ownsRow W.heap.size 3 1 U j ((ks.take j).map fun s=>Value.int .i64 (ks.idxOf s : Nat))
theorem ClsT.next {W : World} {ks : List Bs} {M j : Nat} {U : Value} {X Y : World} (h : ClsT W ks M j U X) (b : Below X.heap.size X Y) : ClsT W ks M j U Y:=⟨aG h.bw b,h.hM,h.map.below b,mU h.own b⟩
theorem ints_of {W X : World} {l : List Int} {U : Value} {n : Nat} (h : X.ownsRow W.heap.size 3 1 U n (l.map fun z=>Value.int .i64 z)) (hn : n = l.length) : jF X l U:=by
 subst hn
 have o : eJ (lo W) W.heap.size X 3 1 l.length (l.map intD) U:=by
  refine ⟨_,h,by simp,fun j d hd=>?_⟩
  rw [List.getElem?_map] at hd
  obtain ⟨z,hz,rfl⟩:=Option.map_eq_some_iff.1 hd
  exact ⟨.int .i64 z,by rw [List.getElem?_map,hz];rfl,rfl⟩
 exact At.keep bL _ _ (o.at (fun k hk=>by simp [lo];omega))
theorem info3c : (Tryz.prog.info? 3).map (fun i=>(i.zero,i.size,i.bytes)) = some (some (.int .i64 0),1,8):=by kernel_rfl
theorem AH (w : World) (x : Value) (t : TypeId) : ∀ (j : Nat) (u : Value),[x][j]? = some u → (w.alloc (.cells #[x] t)).cell? ((⟨w.heap.size,0,none⟩ : Addr).add j) = some u:=by
 intro j u h
 cases j with
 | zero=>simp at h;subst h;rw [show (⟨w.heap.size,0,none⟩ : Addr).add 0 = ⟨w.heap.size,0,none⟩ by simp [Addr.add]];exact (bE (heap_alloc_new w _) 0).trans rfl
 | succ j=>simp at h
set_option maxHeartbeats 8000000 in
theorem lQ (cs : List (List Fm × List Fm)) (hok : ∀ p ∈ cs,okSq p.1 p.2) (W : World) (a : Option Addr) (n c : Nat) (hr : cU W) (hp : cK W) (ho : iJ W) (hx : iK W cs (.slice a n c)) (hl : cs.length ≤ 256) :
  Calls Tryz.prog 31 #[.slice a n c] W fun e w'=>∃ ra rc,e = .returned (.tuple #[.slice ra cs.length rc,.int .i64 0]) ∧ jF w' (kN cs) (.slice ra cs.length rc) ∧ Below W.heap.size W w':=by
 have hmm:=@run_makeMap Tryz.prog
 have hlen:=hx.len
 have N1 : n ≤ 9223372036854775807:=le63 (Nat.le_trans hlen.2.1 hlen.2.2)
 have N2 : ¬ (256 : Int) < (n : Int):=by rw [hlen.1];omega
 have L2:=Lib.hid hlen.1
 have L3 : Hid (n ≤ 256):=by show n ≤ _;rw [hlen.1];exact hl
 have HX:=Lib.hid hx
 have HR:=Lib.hid hr
 have HP:=Lib.hid hp
 have HO:=Lib.hid ho
 have OK:=Lib.hid hok
 obtain ⟨ks,hks⟩ : ∃ ks,keysOf cs = ks:=⟨_,rfl⟩
 have HK:=Lib.hid hks
 obtain ⟨i0,hi0,hz0,hs0,hb0⟩:=info_parts info3c
 have A0 : Hid (ClsT W ks W.heap.size 0 (.slice none 0 0) (W.alloc (.map #[] 0))) :=
  ⟨(Below.refl _ _).alloc (Nat.le_refl _) _,Nat.le_refl _,(MapG.made W).cong (fun s _=>by simp) (fun s _=>by simp),by rw [List.take_zero];exact World.ownsRow_nil _ _ _ _⟩
 clear hlen hx hr hp ho hok hks hl
 go_enter Tryz.func31,Tryz.ntmps31
 go_wp2
 clear N2 hmm
 go_loopw [5,18] (fun u i wr=>∃ (j : Nat) (U : Value),j ≤ n ∧ i = .int .i64 j ∧ U = u ∧ Hid (ClsT W ks W.heap.size j U wr)) (fun _ i _=>n - (intOf i).toNat)
 case atStart=>exact ⟨0,_,Nat.zero_le _,rfl,rfl,A0.out⟩
 case round =>
  obtain ⟨j,U,hj,rfl,rfl,HS⟩:=hrel
  clear A0
  by_cases hlt : j < n
  ·obtain ⟨⟨L,R⟩,hT⟩:=aT (l:=cs) (j:=j) (by rw [← L2.out];exact hlt)
   have KJ : ks[j]? = some (gH (L,R)):=by rw [← HK.out,keysOf,List.getElem?_map,hT];rfl
   have OKJ:=Lib.hid (OK.out (L,R) (List.mem_of_getElem? hT))
   obtain ⟨bb,off,rfl,hc⟩:=(HX.out.keep (aA HS.out.bw)).get (aX hT)
   obtain ⟨x0,x1,x2,x3,x4,x5,c0,c1,hL,hR⟩:=hc j _ hT
   obtain ⟨wn,hwn⟩ : ∃ wn,wr.alloc (.cells #[.slice x0 x1 x2,.slice x3 x4 x5] 26) = wn:=⟨_,rfl⟩
   have bn : Below wr.heap.size wr wn:=by rw [← hwn];exact aZ _ _
   have SN:=Lib.hid (HS.out.next bn)
   obtain ⟨y0,y1,-,-⟩:=row2 (show wn.heap[wr.heap.size]? = some (.cells #[.slice x0 x1 x2,.slice x3 x4 x5] 26 (0,0)) by rw [← hwn];exact heap_alloc_new _ _)
   obtain ⟨ky,hky⟩ : ∃ ky,gH (L,R) = ky:=⟨_,rfl⟩
   have OKK : Hid (okS ky):=by rw [← hky];exact key_len OKJ.out
   have TC : Hid (Calls Tryz.prog 66 #[.agg #[.slice x0 x1 x2,.slice x3 x4 x5]] wn fun e w'=>e = .returned (.tuple #[str ky,.int .i64 0]) ∧ Below wn.heap.size wn w'):=by
    have:=text_c L R _ wn (HR.out.keep (aA SN.out.bw)) (HP.out.below SN.out.bw) (HO.out.keep (aA SN.out.bw)) ⟨_,_,_,_,_,_,rfl,hL.keep (aA bn),hR.keep (aA bn)⟩ OKJ.out
    rw [← hky]
    exact this
   rw [hky] at KJ
   have TK : Hid (ks.take (j + 1) = ks.take j ++ [ky]):=by rw [Hid,List.take_add_one,KJ];rfl
   obtain ⟨ix,hix⟩ : ∃ ix : Nat,ks.idxOf ky = ix:=⟨_,rfl⟩
   have HIX:=Lib.hid hix
   have lt3:=L3.out
   by_cases hmem : ky ∈ ks.take j
   ·have HM:=Lib.hid hmem
    have STEP : Hid (∀ X V,Below W.heap.size W X → MapG Tryz.prog 9 okS litS (.int .i64 0) X W.heap.size j (fun s=>decide (s ∈ ks.take j)) (fun s=>if s ∈ ks.take j then .int .i64 (ks.idxOf s : Nat) else .int .i64 0) → X.ownsRow W.heap.size 3 1 V (j + 1) (((ks.take j).map fun s=>Value.int .i64 (ks.idxOf s : Nat)) ++ [.int .i64 (ix : Nat)]) → ClsT W ks W.heap.size (j + 1) V X):=fun X V hb hm ho=>by
     refine ⟨hb,Nat.le_refl _, ?_, ?_⟩
     ·refine (hm.mono (Nat.le_succ j)).cong (fun s _=>?_) (fun s _=>?_)
      ·rw [TK.out]
       by_cases e : s = ky
       ·subst e;simp [HM.out]
       ·simp [e]
      ·rw [TK.out]
       by_cases e : s = ky
       ·subst e;simp [HM.out]
       ·simp [e]
     ·rw [TK.out,List.map_append,List.map_cons,List.map_nil,HIX.out]
      exact ho
    clear hT hc hL hR bn hky KJ hix hmem
    go_wp2_with (first
     | (
       at_builtin
       have O3:=mU S2.out.own (aZ w2 (.cells #[.int .i64 (ix : Int)] 3))
       have M3:=S2.out.map.below (aZ w2 (.cells #[.int .i64 (ix : Int)] 3))
       have N3:=AH w2 (.int .i64 (ix : Int)) 3
       have OC3 : ∀ u ∈ [Value.int .i64 (ix : Int)],u.oneCell' = true:=fun u hu=>by rw [List.mem_singleton.1 hu];rfl
       have Z3 : W.heap.size ≤ (w2.alloc (.cells #[.int .i64 (ix : Int)] 3)).heap.size:=by have:=S2.out.bw.size;simp;omega
       have Z4 : j + 1 ≤ maxLen:=by unfold maxLen;omega
       have Z5 : (j + 1) * 8 ≤ 140737488355328:=by omega
       refine wpList_append_own_at _ rfl _ _ 68 rfl W.heap.size 3 i0 (.int .i64 0) 1 8 Tryz.underlying68 hi0 hz0 hs0 hb0 rfl (by decide) U j _ rfl O3 ⟨w2.heap.size,0,none⟩ 1 1 [.int .i64 (ix : Int)] rfl rfl N3 OC3 Z4 Z5 Z3 ?_
       intro v5 w5 hown5 hg5 _ _
       have S5:=Lib.hid (STEP.out w5 v5 ((S2.out.bw.alloc S2.out.bw.size _).grown hg5 Z3 (fun k hk=>(S2.out.own.lt k hk).1)) (M3.grown hg5 (fun e=>(mV O3 M3.isMap).elim (fun h=>by rw [h] at e;cases e) (fun h=>h e.symm))) hown5)
       clear hown5 hg5 O3 M3 N3 OC3 Z3 Z4 Z5)
     | (
       go_at_call 66
       refine TC.out.mono ?_
       rintro e w2 ⟨rfl,h2⟩
       have S2:=Lib.hid (SN.out.next h2)
       have lk2:=S2.out.map.look2 keyS gQ (pX w2) OKK.out
       have lk1:=S2.out.map.look keyS gQ (pX w2) OKK.out
       simp only [HM.out,if_true,decide_true,HIX.out] at lk1 lk2
       clear h2 TC y0 y1))
    go_roundw
    case rel=>exact ⟨j + 1,_,by omega,by go_num,rfl,S5.out⟩
    case measure=>simp [intOf];omega
   ·have HM:=Lib.hid hmem
    have ej : ix = j:=by rw [← hix];exact tG ks j ky KJ hmem
    subst ej
    have STEP : Hid (∀ X V,Below W.heap.size W X → MapG Tryz.prog 9 okS litS (.int .i64 0) X W.heap.size (ix + 1) (fun s=>decide (s ∈ ks.take (ix + 1))) (fun s=>if s ∈ ks.take (ix + 1) then .int .i64 (ks.idxOf s : Nat) else .int .i64 0) → X.ownsRow W.heap.size 3 1 V (ix + 1) (((ks.take ix).map fun s=>Value.int .i64 (ks.idxOf s : Nat)) ++ [.int .i64 (ix : Nat)]) → ClsT W ks W.heap.size (ix + 1) V X):=fun X V hb hm ho=>by
     refine ⟨hb,Nat.le_refl _,hm, ?_⟩
     rw [TK.out,List.map_append,List.map_cons,List.map_nil,HIX.out]
     exact ho
    clear hT hc hL hR bn hky KJ hix hmem
    go_wp2_with (first
     | (
       at_builtin
       have O3:=mU O5.out (aZ w5 (.cells #[.int .i64 (ix : Int)] 3))
       have M3:=M5.out.below (aZ w5 (.cells #[.int .i64 (ix : Int)] 3))
       have N3:=AH w5 (.int .i64 (ix : Int)) 3
       have OC3 : ∀ u ∈ [Value.int .i64 (ix : Int)],u.oneCell' = true:=fun u hu=>by rw [List.mem_singleton.1 hu];rfl
       have Z3 : W.heap.size ≤ (w5.alloc (.cells #[.int .i64 (ix : Int)] 3)).heap.size:=by have:=B5.out.size;simp;omega
       have Z4 : ix + 1 ≤ maxLen:=by unfold maxLen;omega
       have Z5 : (ix + 1) * 8 ≤ 140737488355328:=by omega
       refine wpList_append_own_at _ rfl _ _ 68 rfl W.heap.size 3 i0 (.int .i64 0) 1 8 Tryz.underlying68 hi0 hz0 hs0 hb0 rfl (by decide) U ix _ rfl O3 ⟨w5.heap.size,0,none⟩ 1 1 [.int .i64 (ix : Int)] rfl rfl N3 OC3 Z4 Z5 Z3 ?_
       intro v7 w7 hown5 hg5 _ _
       have S7:=Lib.hid (STEP.out w7 v7 ((B5.out.alloc B5.out.size _).grown hg5 Z3 (fun k hk=>(O5.out.lt k hk).1)) (M3.grown hg5 (fun e=>(mV O3 M3.isMap).elim (fun h=>by rw [h] at e;cases e) (fun h=>h e.symm))) hown5)
       clear hown5 hg5 O3 M3 N3 OC3 Z3 Z4 Z5)
     | (
       at_mapUpdate
       refine fC rfl _ _ _ 111 rfl 3 keyS gQ rfl S2.out.map (by unfold maxLen;omega) ky OKK.out (by rfl) ?_
       intro w5 hm5 hg5
       have hm6 : MapG Tryz.prog 9 okS litS (.int .i64 0) w5 W.heap.size (ix + 1) (fun u=>if u = ky then true else decide (u ∈ ks.take ix)) (fun u=>if u = ky then Value.int .i64 (ix : Int) else if u ∈ ks.take ix then .int .i64 (ks.idxOf u : Nat) else .int .i64 0):=hm5
       have M5 : Hid (MapG Tryz.prog 9 okS litS (.int .i64 0) w5 W.heap.size (ix + 1) (fun s=>decide (s ∈ ks.take (ix + 1))) (fun s=>if s ∈ ks.take (ix + 1) then .int .i64 (ks.idxOf s : Nat) else .int .i64 0)):=by
        refine hm6.cong (fun s _=>?_) (fun s _=>?_)
        ·rw [TK.out]
         by_cases e : s = ky
         ·subst e;simp
         ·simp [e]
        ·rw [TK.out]
         by_cases e : s = ky
         ·subst e;simp [HIX.out]
         ·simp [e]
       have B5:=Lib.hid (S2.out.bw.grown hg5 S2.out.bw.size (fun k hk=>by cases hk;exact Nat.le_refl _))
       have O5:=Lib.hid (S2.out.own.kept hg5 (mV S2.out.own S2.out.map.isMap))
       have lk5:=M5.out.look keyS gQ (pX w5) OKK.out
       rw [TK.out] at lk5
       simp only [List.mem_append,List.mem_singleton,or_true,if_true,HIX.out] at lk5
       clear hm5 hm6 hg5 lk1 lk2)
     | (
       go_at_call 66
       refine TC.out.mono ?_
       rintro e w2 ⟨rfl,h2⟩
       have S2:=Lib.hid (SN.out.next h2)
       have lk2:=S2.out.map.look2 keyS gQ (pX w2) OKK.out
       have lk1 : True:=trivial
       simp only [HM.out,if_false,decide_false] at lk2
       clear h2 TC y0 y1))
    go_roundw
    case rel=>exact ⟨ix + 1,_,by omega,by go_num,rfl,S7.out⟩
    case measure=>simp [intOf];omega
  ·have ej : j = cs.length:=by rw [← L2.out];omega
   have e : ks.take j = ks:=List.take_of_length_le (by rw [← HK.out,keysOf,List.length_map];omega)
   have ow:=HS.out.own
   rw [e] at ow
   obtain ⟨ra,rc,rfl⟩:=jW ow
   have I5 : Hid (jF wr (kN cs) (.slice ra j rc)):=ints_of (W:=W) (by rw [kN,HK.out,List.map_map];exact ow) (by rw [kN,keysOf,List.length_map,List.length_map];exact ej)
   have EJ:=Lib.hid ej
   clear ow e ej
   go_wp2
   go_ret2
   exact ⟨ra,rc,by rw [← EJ.out];rfl,by rw [← EJ.out];exact I5.out,HS.out.bw⟩
end Go.Proofs.YtppfalbnhnpbnaaGreatDoor
namespace Go.Proofs.YtppfalbnhnpbnaaGreatDoor
open Go Go.RowKit Ly
theorem rK : ∀ {l : List Fm},(∀ f ∈ l,f.right = true) → bW l = true
 | [],_=>rfl
 | f :: l,h=>by
  have k:=h f (by simp)
  unfold Fm.right at k
  simp only [Bool.and_eq_true] at k
  rw [bW,k.1.1,rK fun g hg=>h g (by simp [hg])]
  rfl
theorem key_iff {p q : List Fm × List Fm} (hp : okSq p.1 p.2) (hq : okSq q.1 q.2) : gH p = gH q ↔ skOf p.1 p.2 = skOf q.1 q.2:=by
 constructor
 ·intro h
  have a:=zP hp
  have b:=zP hq
  obtain ⟨e1,e2⟩:=claimTx_inj (rK a.1) (rK a.2.1) (rK b.1) (rK b.2.1) h
  exact Prod.ext e1 e2
 ·intro h
  unfold gH
  rw [h]
theorem zA : ∀ (ks : List Bs) (i : Nat) (s : Bs),ks[i]? = some s → ks.idxOf s ≤ i
 | [],_,_,h=>by simp at h
 | x :: l,0,s,h=>by simp at h;subst h;simp
 | x :: l,i + 1,s,h=>by
  rw [List.idxOf_cons]
  cases e : (x == s)
  ·have:=zA l i s (by simpa using h)
   simp only [cond_false]
   omega
  ·simp
theorem qC : ∀ (ks : List Bs) (s : Bs),s ∈ ks → ks[ks.idxOf s]? = some s
 | [],_,h=>by cases h
 | x :: l,s,h=>by
  rw [List.idxOf_cons]
  cases e : (x == s)
  ·have hm : s ∈ l:=by
    rcases List.mem_cons.1 h with rfl | h
    ·simp at e
    ·exact h
   simp only [cond_false,List.getElem?_cons_succ]
   exact qC l s hm
  ·have : x = s:=by simpa using e
   subst this
   simp
theorem idx_iff {ks : List Bs} {s t : Bs} (hs : s ∈ ks) (ht : t ∈ ks) : ks.idxOf s = ks.idxOf t ↔ s = t :=
 ⟨fun h=>by have a:=qC ks s hs;have b:=qC ks t ht;rw [h,b] at a;exact (Option.some.inj a).symm,fun h=>by rw [h]⟩
def fN {α : Type} (k : Nat) (l : List α) : List α:=l.drop k ++ l.take k
theorem fF {α : Type} {k : Nat} {l : List α} (h : k ≤ l.length) : (fN k l).length = l.length:=by
 unfold fN
 rw [List.length_append,List.length_drop,List.length_take]
 omega
theorem uC {α : Type} {k i : Nat} {l : List α} (hk : k < l.length) (hi : i < l.length) : (fN k l)[(i + l.length - k) % l.length]? = l[i]?:=by
 unfold fN
 by_cases h : k ≤ i
 ·have e : (i + l.length - k) % l.length = i - k:=by
   rw [show i + l.length - k = (i - k) + l.length by omega,Nat.add_mod_right,Nat.mod_eq_of_lt (by omega)]
  rw [e,List.getElem?_append_left (by rw [List.length_drop];omega),List.getElem?_drop]
  congr 1
  omega
 ·have e : (i + l.length - k) % l.length = i + l.length - k:=Nat.mod_eq_of_lt (by omega)
  rw [e,List.getElem?_append_right (by rw [List.length_drop];omega),List.length_drop,List.getElem?_take]
  rw [if_pos (by omega)]
  congr 1
  omega
theorem oW {α : Type} {k : Nat} {l : List α} {x : α} (h : x ∈ fN k l) : x ∈ l:=by
 unfold fN at h
 rcases List.mem_append.1 h with h | h
 ·exact List.mem_of_mem_drop h
 ·exact List.mem_of_mem_take h
def dW (cs : List (List Fm × List Fm)) (i : Nat) : Nat:=(keysOf cs).idxOf ((keysOf cs).getD i [])
section
variable {cs : List (List Fm × List Fm)} (ok : ∀ p ∈ cs,okSq p.1 p.2)
theorem lH {i : Nat} {p : List Fm × List Fm} (h : cs[i]? = some p) : (keysOf cs)[i]? = some (gH p):=by rw [keysOf,List.getElem?_map,h];rfl
theorem qB {i : Nat} (h : i < cs.length) : (kN cs)[i]? = some ((dW cs i : Nat) : Int):=by
 obtain ⟨p,hp⟩:=aT h
 have k:=lH hp
 rw [kN,List.getElem?_map,k]
 show some _ = _
 rw [dW,List.getD_eq_getElem?_getD,k]
 rfl
theorem yT {i : Nat} (h : i < cs.length) : dW cs i ≤ i:=by
 obtain ⟨p,hp⟩:=aT h
 have k:=lH hp
 rw [dW,List.getD_eq_getElem?_getD,k]
 exact zA _ _ _ k
theorem vL {i : Nat} (h : i < cs.length) : dW cs (dW cs i) = dW cs i:=by
 obtain ⟨p,hp⟩:=aT h
 have k:=lH hp
 have e : dW cs i = (keysOf cs).idxOf (gH p):=by rw [dW,List.getD_eq_getElem?_getD,k];rfl
 have g:=qC (keysOf cs) (gH p) (List.mem_of_getElem? k)
 rw [e,dW,List.getD_eq_getElem?_getD,g]
 rfl
include ok in
theorem qO {i j : Nat} {p q : List Fm × List Fm} (hp : cs[i]? = some p) (hq : cs[j]? = some q) : (dW cs i = dW cs j) ↔ fQ p.1 p.2 q.1 q.2 = true:=by
 have k1:=lH hp
 have k2:=lH hq
 rw [dW,dW,List.getD_eq_getElem?_getD,List.getD_eq_getElem?_getD,k1,k2,sameSk_iff,← key_iff (ok p (List.mem_of_getElem? hp)) (ok q (List.mem_of_getElem? hq))]
 exact idx_iff (List.mem_of_getElem? k1) (List.mem_of_getElem? k2)
include ok in
theorem vM {i j k : Nat} {p q : List Fm × List Fm} (hk : k < cs.length) (hi : i < cs.length) (hj : j < cs.length) (hp : cs[i]? = some p) (hq : cs[j]? = some q) :
  (dW (fN k cs) ((i + cs.length - k) % cs.length) = dW (fN k cs) ((j + cs.length - k) % cs.length)) ↔ fQ p.1 p.2 q.1 q.2 = true :=
 qO (fun p hp=>ok p (oW hp)) ((uC hk hi).trans hp) ((uC hk hj).trans hq)
end
end Go.Proofs.YtppfalbnhnpbnaaGreatDoor
namespace Go.Proofs.YtppfalbnhnpbnaaGreatDoor
open Go Go.RowKit Ly
set_option maxRecDepth 10000
def zfP (n : Nat) : Value → World → Prop:=fun v w=>∃ g,v = one g ∧ w.heap[g]? = some (.cells #[.int .u8 0,str [],.slice none 0 0,.slice none 0 0] 40 (0,0)) ∧ n ≤ g
theorem nw_stays (z : Nat) (X : Fm) : gV (fun v w=>aV (hide (fun k=>decide (k < z)) w) X v):=fun v w w' h hb=>aV.keep h (aH fun k h1 h2=>⟨h2,hb.block k h1⟩)
def nwP (z : Nat) (X : Fm) : Value → World → Prop:=fun v w=>aV (hide (fun k=>decide (k < z)) w) X v
theorem nwP_stays (z : Nat) (X : Fm) : gV (nwP z X):=nw_stays z X
theorem zfP_stays (n : Nat) : gV (zfP n):=fun _ _ _ ⟨g,e,h,l⟩ hb=>⟨g,e,kc hb h,l⟩
noncomputable def lc7 : Array Oper:=((Tryz.f8.body).bind (eG 7)).getD #[]
def lc7R (bb off n c i : Nat) (x0 : Option Addr) (x1 x2 m m0 : Nat) (X : Fm) : List (Value → World → Prop):=[isV (.slice (some ⟨bb,off,none⟩) n c),
 isV (.int .i64 i),
 isV (.pointer (some ⟨bb,off + i,none⟩)),
 isV (.slice x0 x1 x2),
 isV (.slice (some ⟨bb,off,none⟩) n c),
 isV (.int .i64 i),
 isV (.pointer (some ⟨bb,off + i,none⟩)),
 isV (.slice x0 x1 x2),
 isV (.int .i64 x1),
 isV (.int .i64 m),
 isV (.slice x0 m x2),
 nwP m0 X,
 zfP m0]
theorem lc7_stays (bb off n c i : Nat) (x0 : Option Addr) (x1 x2 m m0 : Nat) (X : Fm) : ∀ r ∈ lc7R bb off n c i x0 x1 x2 m m0 X,gV r:=by
 unfold lc7R
 simp only [List.forall_mem_cons]
 exact ⟨aE _,aE _,aE _,aE _,aE _,aE _,aE _,aE _,aE _,aE _,aE _,nwP_stays _ _,zfP_stays _,fun r h=>by cases h⟩
set_option maxHeartbeats 4000000 in
theorem lc7_steps (bb off n c i : Nat) (x0 : Option Addr) (x1 x2 m m0 : Nat) (X : Fm) (Q : Exit → Act → World → Prop) (W : World) (a0 : Act) (h0 : a0.tmps.getD 0 undef = .slice (some ⟨bb,off,none⟩) n c) (h8 : a0.tmps.getD 8 undef = .int .i64 i) (hi : i < n) (HE : W.cell? ⟨bb,off + i,none⟩ = some (.slice x0 x1 x2)) (HM : Hid (min (x1 : Int) 5 = (m : Int))) (hmx : m ≤ x2) (hx : x1 ≤ x2) (hm0 : m0 ≤ W.heap.size) (HB : ∀ w,Below W.heap.size W w → Calls Tryz.prog 19 #[.slice x0 m x2] w fun e w'=>∃ v,e = .returned v ∧ aV (hide (fun k=>decide (k < m0)) w') X v ∧ Below w.heap.size w w') : aB Tryz.prog lc7 Q W a0 (rAt (lc7R bb off n c i x0 x1 x2 m m0 X)) [0,1,2,3,4,5,6,7,8,9,10,11,12]:=by
 refine aB.step (Op.move (Operand.tmp 0)) (by kernel_rfl) (fun a w F=>?_) ?_
 ·have e:=(F.old 0 (by kernel_rfl)).trans h0
  clear F
  rintro ⟨dst,op,ty,pos,af,gd⟩ rfl K Q' hK
  have HK:=Lib.hid hK
  clear hK
  go_simp
  exact HK.out _ _ ⟨Below.refl _ _,rfl⟩
 refine aB.step (Op.move (Operand.tmp 8)) (by kernel_rfl) (fun a w F=>?_) ?_
 ·have e:=(F.old 8 (by kernel_rfl)).trans h8
  clear F
  rintro ⟨dst,op,ty,pos,af,gd⟩ rfl K Q' hK
  have HK:=Lib.hid hK
  clear hK
  go_simp
  exact HK.out _ _ ⟨Below.refl _ _,rfl⟩
 refine aB.step (Op.indexAddr 22 (Operand.tmp 34) (Operand.tmp 35)) (by kernel_rfl) (fun a w F=>?_) ?_
 ·have e0 : a.tmps[34]?.getD undef = .slice (some ⟨bb,off,none⟩) n c:=F.dep 0 34 (by kernel_rfl) (by kernel_rfl)
  have e1 : a.tmps[35]?.getD undef = .int .i64 i:=F.dep 1 35 (by kernel_rfl) (by kernel_rfl)
  have hj1 : (0 : Int) ≤ (i : Int):=by omega
  have hj2 : (i : Int) < (n : Int):=by omega
  have hj3 : ((i : Int)).toNat = i:=by omega
  clear F
  rintro ⟨dst,op,ty,pos,af,gd⟩ rfl K Q' hK
  have HK:=Lib.hid hK
  clear hK
  go_simp
  exact HK.out _ _ ⟨Below.refl _ _,rfl⟩
 refine aB.step (Op.load 43 (Operand.tmp 36)) (by kernel_rfl) (fun a w F=>?_) ?_
 ·have e0 : a.tmps[36]?.getD undef = .pointer (some ⟨bb,off + i,none⟩):=F.dep 2 36 (by kernel_rfl) (by kernel_rfl)
  have kk:=aA F.bw _ _ HE
  clear F
  rintro ⟨dst,op,ty,pos,af,gd⟩ rfl K Q' hK
  have HK:=Lib.hid hK
  clear hK
  go_simp
  exact HK.out _ _ ⟨Below.refl _ _,rfl⟩
 refine aB.step (Op.move (Operand.tmp 0)) (by kernel_rfl) (fun a w F=>?_) ?_
 ·have e:=(F.old 0 (by kernel_rfl)).trans h0
  clear F
  rintro ⟨dst,op,ty,pos,af,gd⟩ rfl K Q' hK
  have HK:=Lib.hid hK
  clear hK
  go_simp
  exact HK.out _ _ ⟨Below.refl _ _,rfl⟩
 refine aB.step (Op.move (Operand.tmp 8)) (by kernel_rfl) (fun a w F=>?_) ?_
 ·have e:=(F.old 8 (by kernel_rfl)).trans h8
  clear F
  rintro ⟨dst,op,ty,pos,af,gd⟩ rfl K Q' hK
  have HK:=Lib.hid hK
  clear hK
  go_simp
  exact HK.out _ _ ⟨Below.refl _ _,rfl⟩
 refine aB.step (Op.indexAddr 22 (Operand.tmp 38) (Operand.tmp 39)) (by kernel_rfl) (fun a w F=>?_) ?_
 ·have e0 : a.tmps[38]?.getD undef = .slice (some ⟨bb,off,none⟩) n c:=F.dep 4 38 (by kernel_rfl) (by kernel_rfl)
  have e1 : a.tmps[39]?.getD undef = .int .i64 i:=F.dep 5 39 (by kernel_rfl) (by kernel_rfl)
  have hj1 : (0 : Int) ≤ (i : Int):=by omega
  have hj2 : (i : Int) < (n : Int):=by omega
  have hj3 : ((i : Int)).toNat = i:=by omega
  clear F
  rintro ⟨dst,op,ty,pos,af,gd⟩ rfl K Q' hK
  have HK:=Lib.hid hK
  clear hK
  go_simp
  exact HK.out _ _ ⟨Below.refl _ _,rfl⟩
 refine aB.step (Op.load 43 (Operand.tmp 40)) (by kernel_rfl) (fun a w F=>?_) ?_
 ·have e0 : a.tmps[40]?.getD undef = .pointer (some ⟨bb,off + i,none⟩):=F.dep 6 40 (by kernel_rfl) (by kernel_rfl)
  have kk:=aA F.bw _ _ HE
  clear F
  rintro ⟨dst,op,ty,pos,af,gd⟩ rfl K Q' hK
  have HK:=Lib.hid hK
  clear hK
  go_simp
  exact HK.out _ _ ⟨Below.refl _ _,rfl⟩
 refine aB.step (Op.call { callee:=Callee.builtin Builtin.len,args:=#[Operand.tmp 41],argTypes:=#[43] }) (by kernel_rfl) (fun a w F=>?_) ?_
 ·have e0 : a.tmps[41]?.getD undef = .slice x0 x1 x2:=F.dep 7 41 (by kernel_rfl) (by kernel_rfl)
  clear F
  rintro ⟨dst,op,ty,pos,af,gd⟩ rfl K Q' hK
  have HK:=Lib.hid hK
  clear hK
  go_simp
  exact HK.out _ _ ⟨Below.refl _ _,rfl⟩
 refine aB.step (Op.call { callee:=Callee.builtin Builtin.min,args:=#[Operand.tmp 42,Operand.const (Value.int IntKind.i64 5)],argTypes:=#[3,3] }) (by kernel_rfl) (fun a w F=>?_) ?_
 ·have e0 : a.tmps[42]?.getD undef = .int .i64 x1:=F.dep 8 42 (by kernel_rfl) (by kernel_rfl)
  have hm:=HM.out
  clear F
  rintro ⟨dst,op,ty,pos,af,gd⟩ rfl K Q' hK
  have HK:=Lib.hid hK
  clear hK
  go_simp
  exact HK.out _ _ ⟨Below.refl _ _,rfl⟩
 refine aB.step (Op.slice 43 (Operand.tmp 37) none (some (Operand.tmp 43)) none) (by kernel_rfl) (fun a w F=>?_) ?_
 ·have e0 : a.tmps[37]?.getD undef = .slice x0 x1 x2:=F.dep 3 37 (by kernel_rfl) (by kernel_rfl)
  have e1 : a.tmps[43]?.getD undef = .int .i64 m:=F.dep 9 43 (by kernel_rfl) (by kernel_rfl)
  have hm1 : (0 : Int) ≤ (m : Int):=by omega
  have hm2 : (m : Int) ≤ (x2 : Int):=by omega
  clear F
  rintro ⟨dst,op,ty,pos,af,gd⟩ rfl K Q' hK
  have HK:=Lib.hid hK
  clear hK
  go_simp
  exact HK.out _ _ ⟨Below.refl _ _,rfl⟩
 refine aB.step (Op.call { callee:=Callee.value (Operand.func 19),args:=#[Operand.tmp 44],argTypes:=#[43] }) (by kernel_rfl) (fun a w F=>?_) ?_
 ·have e : a.tmps[44]?.getD undef = .slice x0 m x2:=F.dep 10 44 (by kernel_rfl) (by kernel_rfl)
  have CA:=Lib.hid (HB w F.bw)
  clear F
  rintro ⟨dst,op,ty,pos,af,gd⟩ rfl K Q' hK
  have HK:=Lib.hid hK
  clear hK
  go_simp
  go_at_call 19
  refine CA.out.mono ?_
  rintro e w1 ⟨v,rfl,hv,hb⟩
  exact HK.out _ _ ⟨hb,hv⟩
 refine aB.step (Op.alloc 40) (by kernel_rfl) (fun a w F=>?_) ?_
 ·have hl : m0 ≤ w.heap.size:=Nat.le_trans hm0 F.bw.size
  clear F
  rintro ⟨dst,op,ty,pos,af,gd⟩ rfl K Q' hK
  have HK:=Lib.hid hK
  clear hK
  go_simp
  exact HK.out _ _ ⟨aZ _ _,_,rfl,heap_alloc_new _ _,hl⟩
 exact aB.nil
end Go.Proofs.YtppfalbnhnpbnaaGreatDoor
namespace Go.Proofs.YtppfalbnhnpbnaaGreatDoor
open Go Go.RowKit Ly
set_option maxRecDepth 10000
theorem vF {w : World} {size n m c : Nat} {ds : List D} {a : Option Addr} (h : At w (.sl size n ds) (.slice a m c)) (hne : ds ≠ []) :
  ∃ b off vs,a = some ⟨b,off,none⟩ ∧ aU w ds vs ∧ ∀ (j : Nat) (u : Value),vs[j]? = some u → w.cell? ⟨b,off + j,none⟩ = some u:=by
 obtain ⟨a',cap,e,h1,h2,h3,h5⟩:=At.sl_inv h
 simp only [Value.slice.injEq] at e
 obtain ⟨rfl,rfl,rfl⟩:=e
 rcases h5 with h5 | ⟨b,off,rfl,h5⟩
 ·exact absurd (List.eq_nil_of_length_eq_zero (by first | (rw [h1,h5,Nat.zero_mul]) | (rw [h2,h5,Nat.zero_mul]) | (rw [h3,h5,Nat.zero_mul]))) hne
 ·have g : ∀ j,j < ds.length → ∃ u,w.cell? ⟨b,off + j,none⟩ = some u ∧ ∀ d,ds[j]? = some d → At w d u:=fun j hj=>by
   obtain ⟨u,hu,ha⟩:=h5 j (ds[j]) (List.getElem?_eq_getElem hj)
   exact ⟨u,hu,fun d hd=>by rw [List.getElem?_eq_getElem hj] at hd;cases hd;exact ha⟩
  refine ⟨b,off,(List.range ds.length).map fun j=>(w.cell? ⟨b,off + j,none⟩).getD undef,rfl,⟨by simp,fun j d hd=>?_⟩,fun j u hu=>?_⟩
  ·have hj:=(List.getElem?_eq_some_iff.1 hd).1
   obtain ⟨u,hu,ha⟩:=g j hj
   refine ⟨u, ?_,ha d hd⟩
   rw [List.getElem?_map,List.getElem?_range hj]
   simp [hu]
  ·rw [List.getElem?_map] at hu
   cases e : (List.range ds.length)[j]? with
   | none=>rw [e] at hu;cases hu
   | some i =>
    obtain ⟨h1,h2⟩:=List.getElem?_eq_some_iff.1 e
    rw [List.getElem_range] at h2
    subst h2
    obtain ⟨v,hv,-⟩:=g j (by simpa using h1)
    rw [e] at hu
    simp [hv] at hu
    rw [hv,hu]
theorem jX : ∀ l : List (List Fm × List Fm),(cZ l).length = l.length * 2
 | []=>rfl
 | p :: l=>by
  show (sqDs p ++ cZ l).length = _
  rw [List.length_append,jX l]
  simp [sqDs]
  omega
theorem oN : ∀ (l : List (List Fm × List Fm)) (k : Nat),cZ (l.take k) = (cZ l).take (k * 2) ∧ cZ (l.drop k) = (cZ l).drop (k * 2)
 | l,0=>by simp [cZ]
 | [],k + 1=>by simp [cZ]
 | p :: l,k + 1=>by
  obtain ⟨h1,h2⟩:=oN l k
  rw [show (k + 1) * 2 = k * 2 + 1 + 1 by omega]
  constructor
  ·show sqDs p ++ cZ (l.take k) = (sqDs p ++ cZ l).take _
   rw [h1];rfl
  ·show cZ (l.drop k) = (sqDs p ++ cZ l).drop _
   rw [h2];rfl
theorem tV : ∀ l m : List (List Fm × List Fm),cZ (l ++ m) = cZ l ++ cZ m
 | [],m=>rfl
 | p :: l,m=>by simp only [List.cons_append,cZ,tV l m,List.append_assoc]
theorem sS {W : World} {ds : List D} {xs : List Value} (h : aU W ds xs) (m : Nat) : aU W (ds.take m) (xs.take m) ∧ aU W (ds.drop m) (xs.drop m):=by
 refine ⟨⟨by simp [h.1],fun j d hd=>?_⟩,by simp [h.1],fun j d hd=>?_⟩
 ·rw [List.getElem?_take] at hd ⊢
  split at hd
  ·rename_i hlt;rw [if_pos hlt];exact h.2 j d hd
  ·cases hd
 ·rw [List.getElem?_drop] at hd ⊢
  exact h.2 _ d hd
theorem qD {W : World} {l : List (List Fm × List Fm)} {xs : List Value} (h : aU W (cZ l) xs) : ∀ u ∈ xs,u.oneCell' = true:=fun u hu=>by
 obtain ⟨j,hj,e⟩:=List.mem_iff_getElem.1 hu
 have hd : (cZ l)[j]? = some ((cZ l)[j]'(by have:=h.1;omega)):=List.getElem?_eq_getElem _
 obtain ⟨v,hv,ha⟩:=h.2 j _ hd
 have e1 : xs[j]? = some u:=by rw [List.getElem?_eq_getElem hj,e]
 rw [e1] at hv
 cases hv
 have : ∀ (l : List (List Fm × List Fm)) (d : D),d ∈ cZ l → ∃ s n ds,d = .sl s n ds:=by
  intro l
  induction l with
  | nil=>intro d hd;cases hd
  | cons p l ih =>
   intro d hd
   rcases List.mem_append.1 (show d ∈ sqDs p ++ cZ l from hd) with h | h
   ·simp only [sqDs,List.mem_cons,List.mem_nil_iff,or_false] at h
    rcases h with rfl | rfl <;> exact ⟨_,_,_,rfl⟩
   ·exact ih d h
 obtain ⟨s,n,ds,e⟩:=this l _ (List.mem_of_getElem? hd)
 rw [e] at ha
 obtain ⟨a,c,rfl,-⟩:=At.sl_inv ha
 rfl
theorem yI {w w5 : World} {cs : List (List Fm × List Fm)} {k n : Nat} {vs : List Value} {v : Value} (hn : cs.length = n) (hk : k ≤ n) (hc : aU w (cZ cs) vs) (b : Below w.heap.size w w5) (ho : w5.ownsRow w.heap.size 26 2 v n (vs.drop (k * 2) ++ vs.take (k * 2))) :
  ∃ a c,v = .slice a n c ∧ iK w5 (fN k cs) (.slice a n c):=by
 obtain ⟨a,c,rfl⟩:=jW ho
 refine ⟨a,c,rfl, ?_⟩
 have C : aU w (cZ (fN k cs)) (vs.drop (k * 2) ++ vs.take (k * 2)):=by
  unfold fN
  rw [tV,(oN cs k).1,(oN cs k).2]
  exact (sS hc _).2.append (sS hc _).1
 have D5 : eJ (fun _=>false) w.heap.size w5 26 2 n (cZ (fN k cs)) (.slice a n c):=by
  refine ⟨_,ho,C.keep fun x u hx=>?_⟩
  have hl:=World.block_lt_of_cell? w x hx
  rw [cD (by
   simp only [Bool.false_or,decide_eq_false_iff_not]
   intro e
   have:=(ho.lt _ e).1
   omega),World.cell?_of_block (b.block _ hl)]
  exact hx
 have:=D5.at (fun _ _=>rfl)
 show At w5 (.sl 2 (fN k cs).length _) _
 rw [fF (by omega),hn]
 exact At.keep bL _ _ this
end Go.Proofs.YtppfalbnhnpbnaaGreatDoor
namespace Go.Proofs.YtppfalbnhnpbnaaGreatDoor
open Go Go.RowKit Ly
set_option maxRecDepth 10000
noncomputable def aw4 : Array Oper:=((Tryz.f9.body).bind (eG 4)).getD #[]
def aw4R : List (Value → World → Prop):=[isV (atV [80]),
 isV (atV [81]),
 fsP [Fm.mk 1 [80] [] [],Fm.mk 1 [81] [] []],
 fmP (Fm.mk 4 [] [] [Fm.mk 1 [80] [] [],Fm.mk 1 [81] [] []]),
 fsP [(Fm.mk 4 [] [] [Fm.mk 1 [80] [] [],Fm.mk 1 [81] [] []])],
 fsP [(Fm.mk 4 [] [] [Fm.mk 1 [80] [] [],Fm.mk 1 [81] [] []])],
 sqP [] [(Fm.mk 4 [] [] [Fm.mk 1 [80] [] [],Fm.mk 1 [81] [] []])],
 isV (atV [81]),
 isV (atV [80]),
 fsP [Fm.mk 1 [81] [] [],Fm.mk 1 [80] [] []],
 fmP (Fm.mk 4 [] [] [Fm.mk 1 [81] [] [],Fm.mk 1 [80] [] []]),
 fsP [(Fm.mk 4 [] [] [Fm.mk 1 [81] [] [],Fm.mk 1 [80] [] []])],
 fsP [(Fm.mk 4 [] [] [Fm.mk 1 [81] [] [],Fm.mk 1 [80] [] []])],
 sqP [] [(Fm.mk 4 [] [] [Fm.mk 1 [81] [] [],Fm.mk 1 [80] [] []])],
 isV (.tuple #[.bool true,.int .i64 0]),
 isV (.tuple #[.bool true,.int .i64 0]),
 isV (.bool true),
 isV (.int .i64 0),
 isV (.bool true),
 isV (.int .i64 0)]
theorem aw4_stays : ∀ r ∈ aw4R,gV r:=by
 unfold aw4R
 simp only [List.forall_mem_cons]
 exact ⟨aE _,aE _,bY _,gM _,bY _,bY _,eN _ _,aE _,aE _,bY _,gM _,bY _,bY _,eN _ _,aE _,aE _,aE _,aE _,aE _,aE _,fun r h=>by cases h⟩
set_option maxHeartbeats 4000000 in
theorem aw4_steps (Q : Exit → Act → World → Prop) (W : World) (a0 : Act) (g1 g2 g3 : Nat) (h1 : a0.tmps.getD 1 undef = one g1) (h2 : a0.tmps.getD 2 undef = one g2) (h3 : a0.tmps.getD 3 undef = one g3) (HA : AwV g1 g2 g3 W) (hr : cU W) (hp : cK W) : aB Tryz.prog aw4 Q W a0 (rAt aw4R) [0,1,2,3,4,5,6,7,8,9,10,11,12,13,14,15,16,17,18,19]:=by
 refine aB.step (Op.load 40 (Operand.tmp 1)) (by kernel_rfl) (fun a w F=>?_) ?_
 ·have e:=(F.old 1 (by kernel_rfl)).trans h1
  obtain ⟨⟨p0,p1,p2,p3⟩,-⟩:=aL (kc F.bw HA.c1)
  clear F
  rintro ⟨dst,op,ty,pos,af,gd⟩ rfl K Q' hK
  have HK:=Lib.hid hK
  clear hK
  go_simp
  exact HK.out _ _ ⟨Below.refl _ _,rfl⟩
 refine aB.step (Op.load 40 (Operand.tmp 2)) (by kernel_rfl) (fun a w F=>?_) ?_
 ·have e:=(F.old 2 (by kernel_rfl)).trans h2
  obtain ⟨⟨p0,p1,p2,p3⟩,-⟩:=aL (kc F.bw HA.c2)
  clear F
  rintro ⟨dst,op,ty,pos,af,gd⟩ rfl K Q' hK
  have HK:=Lib.hid hK
  clear hK
  go_simp
  exact HK.out _ _ ⟨Below.refl _ _,rfl⟩
 refine aB.step (Op.buildSlice 24 2 #[(0,Operand.tmp 60),(1,Operand.tmp 61)]) (by kernel_rfl) (fun a w F=>?_) ?_
 ·have ex : a.tmps[60]?.getD undef = .agg #[.int .u8 1,str [80],.slice none 0 0,.slice none 0 0]:=F.dep 0 60 (by kernel_rfl) (by kernel_rfl)
  have dx:=eR w [80]
  have ey : a.tmps[61]?.getD undef = .agg #[.int .u8 1,str [81],.slice none 0 0,.slice none 0 0]:=F.dep 1 61 (by kernel_rfl) (by kernel_rfl)
  have dy:=eR w [81]
  clear F
  rintro ⟨dst,op,ty,pos,af,gd⟩ rfl K Q' hK
  have HK:=Lib.hid hK
  have Dx:=Lib.hid dx
  have Dy:=Lib.hid dy
  clear hK dx dy
  go_simp
  exact HK.out _ _ ⟨aZ _ _,kP Dx.out Dy.out⟩
 refine aB.step (Op.call { callee:=Callee.value (Operand.func 17),args:=#[Operand.const (Value.int IntKind.u8 4),Operand.tmp 62],argTypes:=#[5,24] }) (by kernel_rfl) (fun a w F=>?_) ?_
 ·have dx : aN w [Fm.mk 1 [80] [] [],Fm.mk 1 [81] [] []] (a.tmps[62]?.getD undef):=F.dep 2 62 (by kernel_rfl) (by kernel_rfl)
  obtain ⟨ax,cx,ex,-⟩:=At.sl_inv dx
  rw [ex] at dx
  clear F
  rintro ⟨dst,op,ty,pos,af,gd⟩ rfl K Q' hK
  have HK:=Lib.hid hK
  have DX:=Lib.hid dx
  clear hK dx
  go_simp
  go_at_call 17
  refine (fJ 4 [Fm.mk 1 [80] [] [],Fm.mk 1 [81] [] []] _ _ _ _ DX.out).mono ?_
  rintro e w1 ⟨v,rfl,hv,hb⟩
  exact HK.out _ _ ⟨hb,hv⟩
 refine aB.step (Op.buildSlice 24 1 #[(0,Operand.tmp 63)]) (by kernel_rfl) (fun a w F=>?_) ?_
 ·have dx : aV w (Fm.mk 4 [] [] [Fm.mk 1 [80] [] [],Fm.mk 1 [81] [] []]) (a.tmps[63]?.getD undef):=F.dep 3 63 (by kernel_rfl) (by kernel_rfl)
  obtain ⟨ix,nx,cx,jx,mx,lx,ex,-⟩:=id dx
  rw [ex] at dx
  clear F
  rintro ⟨dst,op,ty,pos,af,gd⟩ rfl K Q' hK
  have HK:=Lib.hid hK
  have Dx:=Lib.hid dx
  clear hK dx
  go_simp
  exact HK.out _ _ ⟨aZ _ _,kO Dx.out⟩
 refine aB.step (Op.call { callee:=Callee.value (Operand.func 21),args:=#[Operand.tmp 64],argTypes:=#[24] }) (by kernel_rfl) (fun a w F=>?_) ?_
 ·have dx : aN w [(Fm.mk 4 [] [] [Fm.mk 1 [80] [] [],Fm.mk 1 [81] [] []])] (a.tmps[64]?.getD undef):=F.dep 4 64 (by kernel_rfl) (by kernel_rfl)
  obtain ⟨ax,cx,ex,-⟩:=At.sl_inv dx
  rw [ex] at dx
  clear F
  rintro ⟨dst,op,ty,pos,af,gd⟩ rfl K Q' hK
  have HK:=Lib.hid hK
  have DX:=Lib.hid dx
  clear hK dx
  go_simp
  go_at_call 21
  refine (fs_c _ _).mono ?_
  rintro e w1 ⟨rfl,rfl⟩
  exact HK.out _ _ ⟨Below.refl _ _,DX.out⟩
 refine aB.step (Op.call { callee:=Callee.value (Operand.func 20),args:=#[Operand.const (Value.slice none 0 0),Operand.tmp 65],argTypes:=#[24,24] }) (by kernel_rfl) (fun a w F=>?_) ?_
 ·have dy : aN w [(Fm.mk 4 [] [] [Fm.mk 1 [80] [] [],Fm.mk 1 [81] [] []])] (a.tmps[65]?.getD undef):=F.dep 5 65 (by kernel_rfl) (by kernel_rfl)
  obtain ⟨ay,cy,ey,-⟩:=At.sl_inv dy
  rw [ey] at dy
  clear F
  rintro ⟨dst,op,ty,pos,af,gd⟩ rfl K Q' hK
  have HK:=Lib.hid hK
  have DY:=Lib.hid dy
  clear hK dy
  go_simp
  go_at_call 20
  refine (sq_c _ _ _ _ _ _ _).mono ?_
  rintro e w1 ⟨rfl,hb⟩
  exact HK.out _ _ ⟨hb,_,_,_,_,_,_,rfl,At.sl_nil (Nat.zero_le _),(DY.out).keep (aA hb)⟩
 refine aB.step (Op.load 40 (Operand.tmp 2)) (by kernel_rfl) (fun a w F=>?_) ?_
 ·have e:=(F.old 2 (by kernel_rfl)).trans h2
  obtain ⟨⟨p0,p1,p2,p3⟩,-⟩:=aL (kc F.bw HA.c2)
  clear F
  rintro ⟨dst,op,ty,pos,af,gd⟩ rfl K Q' hK
  have HK:=Lib.hid hK
  clear hK
  go_simp
  exact HK.out _ _ ⟨Below.refl _ _,rfl⟩
 refine aB.step (Op.load 40 (Operand.tmp 1)) (by kernel_rfl) (fun a w F=>?_) ?_
 ·have e:=(F.old 1 (by kernel_rfl)).trans h1
  obtain ⟨⟨p0,p1,p2,p3⟩,-⟩:=aL (kc F.bw HA.c1)
  clear F
  rintro ⟨dst,op,ty,pos,af,gd⟩ rfl K Q' hK
  have HK:=Lib.hid hK
  clear hK
  go_simp
  exact HK.out _ _ ⟨Below.refl _ _,rfl⟩
 refine aB.step (Op.buildSlice 24 2 #[(0,Operand.tmp 67),(1,Operand.tmp 68)]) (by kernel_rfl) (fun a w F=>?_) ?_
 ·have ex : a.tmps[67]?.getD undef = .agg #[.int .u8 1,str [81],.slice none 0 0,.slice none 0 0]:=F.dep 7 67 (by kernel_rfl) (by kernel_rfl)
  have dx:=eR w [81]
  have ey : a.tmps[68]?.getD undef = .agg #[.int .u8 1,str [80],.slice none 0 0,.slice none 0 0]:=F.dep 8 68 (by kernel_rfl) (by kernel_rfl)
  have dy:=eR w [80]
  clear F
  rintro ⟨dst,op,ty,pos,af,gd⟩ rfl K Q' hK
  have HK:=Lib.hid hK
  have Dx:=Lib.hid dx
  have Dy:=Lib.hid dy
  clear hK dx dy
  go_simp
  exact HK.out _ _ ⟨aZ _ _,kP Dx.out Dy.out⟩
 refine aB.step (Op.call { callee:=Callee.value (Operand.func 17),args:=#[Operand.const (Value.int IntKind.u8 4),Operand.tmp 69],argTypes:=#[5,24] }) (by kernel_rfl) (fun a w F=>?_) ?_
 ·have dx : aN w [Fm.mk 1 [81] [] [],Fm.mk 1 [80] [] []] (a.tmps[69]?.getD undef):=F.dep 9 69 (by kernel_rfl) (by kernel_rfl)
  obtain ⟨ax,cx,ex,-⟩:=At.sl_inv dx
  rw [ex] at dx
  clear F
  rintro ⟨dst,op,ty,pos,af,gd⟩ rfl K Q' hK
  have HK:=Lib.hid hK
  have DX:=Lib.hid dx
  clear hK dx
  go_simp
  go_at_call 17
  refine (fJ 4 [Fm.mk 1 [81] [] [],Fm.mk 1 [80] [] []] _ _ _ _ DX.out).mono ?_
  rintro e w1 ⟨v,rfl,hv,hb⟩
  exact HK.out _ _ ⟨hb,hv⟩
 refine aB.step (Op.buildSlice 24 1 #[(0,Operand.tmp 70)]) (by kernel_rfl) (fun a w F=>?_) ?_
 ·have dx : aV w (Fm.mk 4 [] [] [Fm.mk 1 [81] [] [],Fm.mk 1 [80] [] []]) (a.tmps[70]?.getD undef):=F.dep 10 70 (by kernel_rfl) (by kernel_rfl)
  obtain ⟨ix,nx,cx,jx,mx,lx,ex,-⟩:=id dx
  rw [ex] at dx
  clear F
  rintro ⟨dst,op,ty,pos,af,gd⟩ rfl K Q' hK
  have HK:=Lib.hid hK
  have Dx:=Lib.hid dx
  clear hK dx
  go_simp
  exact HK.out _ _ ⟨aZ _ _,kO Dx.out⟩
 refine aB.step (Op.call { callee:=Callee.value (Operand.func 21),args:=#[Operand.tmp 71],argTypes:=#[24] }) (by kernel_rfl) (fun a w F=>?_) ?_
 ·have dx : aN w [(Fm.mk 4 [] [] [Fm.mk 1 [81] [] [],Fm.mk 1 [80] [] []])] (a.tmps[71]?.getD undef):=F.dep 11 71 (by kernel_rfl) (by kernel_rfl)
  obtain ⟨ax,cx,ex,-⟩:=At.sl_inv dx
  rw [ex] at dx
  clear F
  rintro ⟨dst,op,ty,pos,af,gd⟩ rfl K Q' hK
  have HK:=Lib.hid hK
  have DX:=Lib.hid dx
  clear hK dx
  go_simp
  go_at_call 21
  refine (fs_c _ _).mono ?_
  rintro e w1 ⟨rfl,rfl⟩
  exact HK.out _ _ ⟨Below.refl _ _,DX.out⟩
 refine aB.step (Op.call { callee:=Callee.value (Operand.func 20),args:=#[Operand.const (Value.slice none 0 0),Operand.tmp 72],argTypes:=#[24,24] }) (by kernel_rfl) (fun a w F=>?_) ?_
 ·have dy : aN w [(Fm.mk 4 [] [] [Fm.mk 1 [81] [] [],Fm.mk 1 [80] [] []])] (a.tmps[72]?.getD undef):=F.dep 12 72 (by kernel_rfl) (by kernel_rfl)
  obtain ⟨ay,cy,ey,-⟩:=At.sl_inv dy
  rw [ey] at dy
  clear F
  rintro ⟨dst,op,ty,pos,af,gd⟩ rfl K Q' hK
  have HK:=Lib.hid hK
  have DY:=Lib.hid dy
  clear hK dy
  go_simp
  go_at_call 20
  refine (sq_c _ _ _ _ _ _ _).mono ?_
  rintro e w1 ⟨rfl,hb⟩
  exact HK.out _ _ ⟨hb,_,_,_,_,_,_,rfl,At.sl_nil (Nat.zero_le _),(DY.out).keep (aA hb)⟩
 refine aB.step (Op.call { callee:=Callee.value (Operand.func 12),args:=#[Operand.tmp 66,Operand.tmp 73],argTypes:=#[26,26] }) (by kernel_rfl) (fun a w F=>?_) ?_
 ·have dx : cV w [] [(Fm.mk 4 [] [] [Fm.mk 1 [80] [] [],Fm.mk 1 [81] [] []])] (a.tmps[66]?.getD undef):=F.dep 6 66 (by kernel_rfl) (by kernel_rfl)
  obtain ⟨a1,n1,c1,b1,m1,l1,ex,-⟩:=id dx
  rw [ex] at dx
  have dy : cV w [] [(Fm.mk 4 [] [] [Fm.mk 1 [81] [] [],Fm.mk 1 [80] [] []])] (a.tmps[73]?.getD undef):=F.dep 13 73 (by kernel_rfl) (by kernel_rfl)
  obtain ⟨a2,n2,c2,b2,m2,l2,ey,-⟩:=id dy
  rw [ey] at dy
  have rows:=hr.keep (aA F.bw)
  have pows:=hp.below F.bw
  clear F
  rintro ⟨dst,op,ty,pos,af,gd⟩ rfl K Q' hK
  have HK:=Lib.hid hK
  have DX:=Lib.hid dx
  have DY:=Lib.hid dy
  have ROWS:=Lib.hid rows
  have POWS:=Lib.hid pows
  clear hK dx dy rows pows
  go_simp
  go_at_call 12
  refine (qH _ _ _ _ _ _ _ ROWS.out POWS.out DX.out DY.out (gT (by kernel_rfl)) (gT (by kernel_rfl))).mono ?_
  rintro e w1 ⟨rfl,hb⟩
  exact HK.out _ _ ⟨hb,congrArg (fun b=>Value.tuple #[.bool b,.int .i64 0]) (tS Ly.aw2)⟩
 refine aB.step (Op.move (Operand.tmp 74)) (by kernel_rfl) (fun a w F=>?_) ?_
 ·have e : a.tmps[74]?.getD undef = .tuple #[.bool true,.int .i64 0]:=F.dep 14 74 (by kernel_rfl) (by kernel_rfl)
  clear F
  rintro ⟨dst,op,ty,pos,af,gd⟩ rfl K Q' hK
  have HK:=Lib.hid hK
  clear hK
  go_simp
  exact HK.out _ _ ⟨Below.refl _ _,rfl⟩
 refine aB.step (Op.extract (Operand.tmp 59) 0) (by kernel_rfl) (fun a w F=>?_) ?_
 ·have e : a.tmps[59]?.getD undef = .tuple #[.bool true,.int .i64 0]:=F.dep 15 59 (by kernel_rfl) (by kernel_rfl)
  clear F
  rintro ⟨dst,op,ty,pos,af,gd⟩ rfl K Q' hK
  have HK:=Lib.hid hK
  clear hK
  go_simp
  exact HK.out _ _ ⟨Below.refl _ _,rfl⟩
 refine aB.step (Op.extract (Operand.tmp 59) 1) (by kernel_rfl) (fun a w F=>?_) ?_
 ·have e : a.tmps[59]?.getD undef = .tuple #[.bool true,.int .i64 0]:=F.dep 15 59 (by kernel_rfl) (by kernel_rfl)
  clear F
  rintro ⟨dst,op,ty,pos,af,gd⟩ rfl K Q' hK
  have HK:=Lib.hid hK
  clear hK
  go_simp
  exact HK.out _ _ ⟨Below.refl _ _,rfl⟩
 refine aB.step (Op.assign (Operand.tmp 75)) (by kernel_rfl) (fun a w F=>?_) ?_
 ·have e : a.tmps[75]?.getD undef = .bool true:=F.dep 16 75 (by kernel_rfl) (by kernel_rfl)
  clear F
  rintro ⟨dst,op,ty,pos,af,gd⟩ rfl K Q' hK
  have HK:=Lib.hid hK
  clear hK
  go_simp
  exact HK.out _ _ ⟨Below.refl _ _,rfl⟩
 refine aB.step (Op.assign (Operand.tmp 76)) (by kernel_rfl) (fun a w F=>?_) ?_
 ·have e : a.tmps[76]?.getD undef = .int .i64 0:=F.dep 17 76 (by kernel_rfl) (by kernel_rfl)
  clear F
  rintro ⟨dst,op,ty,pos,af,gd⟩ rfl K Q' hK
  have HK:=Lib.hid hK
  clear hK
  go_simp
  exact HK.out _ _ ⟨Below.refl _ _,rfl⟩
 exact aB.nil
end Go.Proofs.YtppfalbnhnpbnaaGreatDoor
