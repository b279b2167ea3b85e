/- holds.Valid and lyceumref14.Valid answer alike at any model. Conditions: few facts, functions, binds and worlds; names fit into memory. -/
import Derived.Test.YtcandidgaegghaaGreatDoorCpZ
import Derived.Test.YtcandidgaegghaaGreatDoorMdSCZ
import Derived.Test.YtcandidgaegghaaGreatDoorMdZZ
import Derived.Test.YtcandidgaegghaaGreatDoorRefDZ
import Derived.Test.YtcandidgaegghaaGreatDoorMdAZ
import Derived.Test.YtcandidgaegghaaGreatDoorRdGZ
import Derived.Test.YtcandidgaegghaaGreatDoorAwakeZ
import Derived.Test.YtcandidgaegghaaGreatDoorSameBZ
import Derived.Test.YtcandidgaegghaaGreatDoorOutlZ
set_option maxRecDepth 10000
set_option linter.unusedSimpArgs false
set_option linter.unusedVariables false
namespace Go.Proofs.YtcandidgaegghaaGreatDoor
open Go Go.RowKit Go.Sort Ly
set_option maxHeartbeats 4000000
structure vN (m : Md) : Prop where
 facts : m.facts.length ≤ 12
 funcs : m.funcs.length ≤ 12
 binds : m.binds.length ≤ 12
 rel : m.rel.length ≤ 8
 nF : ∀ x ∈ m.facts,x.name.length ≤ 9223372036854775807
 nG : ∀ x ∈ m.funcs,x.name.length ≤ 9223372036854775807
 nB : ∀ x ∈ m.binds,x.name.length ≤ 9223372036854775807
def fU (m : Md) : Bool :=
 if m.kind = 1 then kF m.facts m.size m.loop m.rel.length m.funcs.length m.binds.length
 else if m.kind = 2 then finB m.facts m.funcs m.binds m.size m.loop m.rel.length
 else if m.kind = 3 then eC 3 m.facts m.size m.loop m.rel m.funcs.length m.binds.length
 else if m.kind = 4 then eC 4 m.facts m.size m.loop m.rel m.funcs.length m.binds.length
 else if m.kind = 5 then dW m.facts m.size m.loop m.rel.length m.funcs.length m.binds.length
 else false
def iA (κ : Int) : Int:=if κ = 1 then 254 else if κ = 2 then 1022 else if κ = 3 then 254 else if κ = 4 then 3326 else if κ = 5 then 28926 else 0
theorem hI (κ : Int) (w : World) : Calls Tryz.prog 66 #[.int .u8 κ] w (Rt (.int .u32 (iA κ)) w):=by
 rcases (show κ = 1 ∨ κ = 2 ∨ κ = 3 ∨ κ = 4 ∨ κ = 5 ∨ (κ < 1 ∨ 5 < κ) by omega) with rfl | rfl | rfl | rfl | rfl | h
 ·exact sY w
 ·exact sZ w
 ·exact tA w
 ·exact kN w
 ·exact tB w
 ·have e : iA κ = 0:=by unfold iA;rw [if_neg (by omega),if_neg (by omega),if_neg (by omega),if_neg (by omega),if_neg (by omega)]
  rw [e];exact Allowed_none κ h w
theorem structuresValid_c (q : Bool) (z lo : Int) (ra fa ga ba : Option Addr) (rn rc fn fc gn gc bn bc : Nat) (w : World)
  (hV : ∀ W,Below w.heap.size w W → Calls Tryz.prog 352 #[mdK 2 z ra rn rc lo fa fn fc ga gn gc ba bn bc] W (Rt (.bool q) W)) :
  Calls Tryz.prog 351 #[.agg #[],mdK 2 z ra rn rc lo fa fn fc ga gn gc ba bn bc,.int .u8 0] w (Rt (.bool q) w):=by
 have HB : Hid (Below w.heap.size w ((w.alloc (.cells #[] 302)).alloc (mdR 2 z ra rn rc lo fa fn fc ga gn gc ba bn bc))):=bnew.alloc (by simp) _
 have HV:=Hd hV
 clear hV
 go_enter Tryz.func351,Tryz.ntmps351
 go_wp2_with (go_at_call 352;refine (HV.out _ HB.out).mono ?_;rintro e w1 ⟨rfl,b1⟩;have B1:=Hd (aA HB.out b1);clear b1)
 go_ret
 exact ⟨rfl,B1.out⟩
theorem tracesValid_c (q : Bool) (z lo : Int) (ra fa ga ba : Option Addr) (rn rc fn fc gn gc bn bc : Nat) (w : World)
  (hV : ∀ W,Below w.heap.size w W → Calls Tryz.prog 388 #[mdK 5 z ra rn rc lo fa fn fc ga gn gc ba bn bc] W (Rt (.bool q) W)) :
  Calls Tryz.prog 387 #[.agg #[],mdK 5 z ra rn rc lo fa fn fc ga gn gc ba bn bc,.int .u8 0] w (Rt (.bool q) w):=by
 have HB : Hid (Below w.heap.size w ((w.alloc (.cells #[] 305)).alloc (mdR 5 z ra rn rc lo fa fn fc ga gn gc ba bn bc))):=bnew.alloc (by simp) _
 have HV:=Hd hV
 clear hV
 go_enter Tryz.func387,Tryz.ntmps387
 go_wp2_with (go_at_call 388;refine (HV.out _ HB.out).mono ?_;rintro e w1 ⟨rfl,b1⟩;have B1:=Hd (aA HB.out b1);clear b1)
 go_ret
 exact ⟨rfl,B1.out⟩
theorem holdsValid_c (m : Md) (hm : vN m) (ra fa ga ba : Option Addr) (rn rc fn fc gn gc bn bc : Nat) (w : World) (hx : MdAt w m ra rn rc fa fn fc ga gn gc ba bn bc) :
  Calls Tryz.prog 65 #[lgV m.kind (iA m.kind),mdV m ra rn rc fa fn fc ga gn gc ba bn bc] w (Rt (.bool (fU m)) w):=by
 obtain ⟨κ,z,R,lo,F,G,B⟩:=m
 obtain ⟨h1,h2,h3,h4,n1,n2,n3⟩:=hm
 simp only [] at h1 h2 h3 h4 n1 n2 n3
 have e1:=hx.rel.len.1;have e2:=hx.facts.len.1;have e3:=hx.funcs.len.1;have e4:=hx.binds.len.1
 simp only [] at e1 e2 e3 e4
 have m1:=hx.rel.len;have m3:=hx.funcs.len;have m4:=hx.binds.len
 have KR : ∀ W,Below w.heap.size w W → aM W 1 (inV R) R.length (.slice ra rn rc):=fun W hW=>hx.rel.keep (aC hW)
 have KF : ∀ W,Below w.heap.size w W → aM W 3 (fasV F) F.length (.slice fa fn fc):=fun W hW=>hx.facts.keep (aC hW)
 have KG : ∀ W,Below w.heap.size w W → fZ W G (.slice ga gn gc):=fun W hW=>hx.funcs.keep (aC hW)
 have KB : ∀ W,Below w.heap.size w W → aM W 2 (bisV B) B.length (.slice ba bn bc):=fun W hW=>hx.binds.keep (aC hW)
 have mx : ∀ n : Nat,n ≤ 1000 → n ≤ maxLen:=fun n h=>by unfold maxLen;omega
 rcases (show κ = 1 ∨ κ = 2 ∨ κ = 3 ∨ κ = 4 ∨ κ = 5 ∨ (κ < 1 ∨ 5 < κ) by omega) with rfl | rfl | rfl | rfl | rfl | h
 ·refine Valid_of_1 _ z lo ra fa ga ba rn rc fn fc gn gc bn bc w fun W hW=>?_
  have:=valuationsValid_c F (by omega) n1 z lo ra fa ga ba rn rc fn fc gn gc bn bc (by omega) (by omega) (by omega) W (KF W hW)
  rw [e1,e3,e4] at this ⊢
  exact this
 ·refine Valid_of_2 _ z lo ra fa ga ba rn rc fn fc gn gc bn bc w fun W hW=>structuresValid_c _ z lo ra fa ga ba rn rc fn fc gn gc bn bc W fun V hV=>?_
  have hVW:=hW.trans (hV.mono hW.size)
  have:=finV_c F G B (by omega) (by omega) (by omega) n1 n2 n3 z lo ra fa ga ba rn rc fn fc gn gc bn bc (by omega) V (KF V hVW) (KG V hVW) (KB V hVW)
  rw [e1] at this ⊢
  exact this
 ·refine Valid_of_3 _ z lo ra fa ga ba rn rc fn fc gn gc bn bc w fun W hW=>?_
  have:=framesV3_c F (by omega) n1 z lo R ra fa ga ba rn rc fn fc gn gc bn bc (mx _ (by omega)) (mx _ (by omega)) W (KF W hW) (KR W hW)
  rw [e3,e4] at this ⊢
  exact this
 ·refine Valid_of_4 _ z lo ra fa ga ba rn rc fn fc gn gc bn bc w fun W hW=>?_
  have:=framesV4_c F (by omega) n1 z lo R ra fa ga ba rn rc fn fc gn gc bn bc (mx _ (by omega)) (mx _ (by omega)) W (KF W hW) (KR W hW)
  rw [e3,e4] at this ⊢
  exact this
 ·refine Valid_of_5 _ z lo ra fa ga ba rn rc fn fc gn gc bn bc w fun W hW=>tracesValid_c _ z lo ra fa ga ba rn rc fn fc gn gc bn bc W fun V hV=>?_
  have hVW:=hW.trans (hV.mono hW.size)
  have:=trace_c F (by omega) n1 z lo ra fa ga ba rn rc fn fc gn gc bn bc (mx _ (by omega)) (mx _ (by omega)) (mx _ (by omega)) V (KF V hVW)
  rw [e1,e3,e4] at this ⊢
  exact this
 ·have e : iA κ = 0:=by unfold iA;rw [if_neg (by omega),if_neg (by omega),if_neg (by omega),if_neg (by omega),if_neg (by omega)]
  have e' : fU ⟨κ,z,R,lo,F,G,B⟩ = false:=by unfold fU;simp only [];rw [if_neg (by omega),if_neg (by omega),if_neg (by omega),if_neg (by omega),if_neg (by omega)]
  rw [e']
  simp only [e]
  exact Valid_none κ h z lo ra fa ga ba rn rc fn fc gn gc bn bc w
theorem refValid_c (m : Md) (hm : vN m) (ra fa ga ba : Option Addr) (rn rc fn fc gn gc bn bc : Nat) (w : World) (hx : MdAt w m ra rn rc fa fn fc ga gn gc ba bn bc) :
  Calls Tryz.prog 72 #[lgV m.kind 0,mdV m ra rn rc fa fn fc ga gn gc ba bn bc] w (Rt (.bool (fU m)) w):=by
 obtain ⟨κ,z,R,lo,F,G,B⟩:=m
 obtain ⟨h1,h2,h3,h4,n1,n2,n3⟩:=hm
 simp only [] at h1 h2 h3 h4 n1 n2 n3
 have e1:=hx.rel.len.1;have e2:=hx.facts.len.1;have e3:=hx.funcs.len.1;have e4:=hx.binds.len.1
 simp only [] at e1 e2 e3 e4
 have KR : ∀ W,Below w.heap.size w W → aM W 1 (inV R) R.length (.slice ra rn rc):=fun W hW=>hx.rel.keep (aC hW)
 have KF : ∀ W,Below w.heap.size w W → aM W 3 (fasV F) F.length (.slice fa fn fc):=fun W hW=>hx.facts.keep (aC hW)
 have KG : ∀ W,Below w.heap.size w W → fZ W G (.slice ga gn gc):=fun W hW=>hx.funcs.keep (aC hW)
 have KB : ∀ W,Below w.heap.size w W → aM W 2 (bisV B) B.length (.slice ba bn bc):=fun W hW=>hx.binds.keep (aC hW)
 have mx : ∀ n : Nat,n ≤ 1000 → n ≤ maxLen:=fun n h=>by unfold maxLen;omega
 rcases (show κ = 1 ∨ κ = 2 ∨ κ = 3 ∨ κ = 4 ∨ κ = 5 ∨ (κ < 1 ∨ 5 < κ) by omega) with rfl | rfl | rfl | rfl | rfl | h
 ·have:=valid14_1 F (by omega) n1 z lo ra fa ga ba rn rc fn fc gn gc bn bc w (by omega) (by omega) (by omega) (KF w (Below.refl _ _))
  rw [e1,e3,e4] at this ⊢
  exact this
 ·refine valid14_2 _ z lo ra fa ga ba rn rc fn fc gn gc bn bc w fun W hW=>?_
  have:=finRef_c F G B (by omega) (by omega) (by omega) n1 n2 n3 z lo ra fa ga ba rn rc fn fc gn gc bn bc (by omega) W (KF W hW) (KG W hW) (KB W hW)
  rw [e1] at this ⊢
  exact this
 ·refine valid14_3 _ z lo ra fa ga ba rn rc fn fc gn gc bn bc w (fun W hW=>?_) (fun h W hW=>?_)
  ·have:=frameRef3_c F (by omega) n1 z lo R ra fa ga ba rn rc fn fc gn gc bn bc (mx _ (by omega)) (mx _ (by omega)) W (KF W hW) (KR W hW)
   rw [e3,e4] at this ⊢
   exact this
  ·have hb : relB R = true:=by
    have h' : eC 3 F z lo R G.length B.length = true:=h
    unfold eC at h'
    simp only [Bool.and_eq_true] at h'
    exact h'.2.1
   have:=vK R ra rn rc W (KR W hW)
   rw [hb] at this
   exact this
 ·refine valid14_4 _ z lo ra fa ga ba rn rc fn fc gn gc bn bc w (fun W hW=>?_) (fun h W hW=>?_)
  ·have:=frameRef4_c F (by omega) n1 z lo R ra fa ga ba rn rc fn fc gn gc bn bc (mx _ (by omega)) (mx _ (by omega)) W (KF W hW) (KR W hW)
   rw [e3,e4] at this ⊢
   exact this
  ·have hb : relB R = true:=by
    have h' : eC 4 F z lo R G.length B.length = true:=h
    unfold eC at h'
    simp only [Bool.and_eq_true] at h'
    exact h'.2.1
   have:=vK R ra rn rc W (KR W hW)
   rw [hb] at this
   exact this
 ·refine valid14_5 _ z lo ra fa ga ba rn rc fn fc gn gc bn bc w fun W hW=>?_
  have:=traceRef_c F (by omega) n1 z lo ra fa ga ba rn rc fn fc gn gc bn bc (mx _ (by omega)) (mx _ (by omega)) (mx _ (by omega)) W (KF W hW)
  rw [e1,e3,e4] at this ⊢
  exact this
 ·have e' : fU ⟨κ,z,R,lo,F,G,B⟩ = false:=by unfold fU;simp only [];rw [if_neg (by omega),if_neg (by omega),if_neg (by omega),if_neg (by omega),if_neg (by omega)]
  rw [e']
  exact valid14_none κ h z lo ra fa ga ba rn rc fn fc gn gc bn bc w
open Go Go.RowKit Go.Sort Ly
theorem wpList_append_any {P : Program} (w : World) {ops : Array Oper} {rest : List Oper} {o : Oper} {a : Act} {Q : Exit → Act → World → Prop} (hgd : o.guard = none) (s x : Operand) (t : TypeId)
  (ho : o.op = .call { callee:=.builtin .append,args:=#[s,x],argTypes:=#[t,t] })
  (base : Nat) (e : TypeId) (i : TypeInfo) (z : Value) (size bytes : Nat) (ht : P.underlying t = some (.slice e)) (hi : P.info? e = some i) (hz : i.zero = some z)
  (hsize : i.size = size) (hby : i.bytes = bytes) (hzs : z.cells.size = size) (hsz : 0 < size)
  (v : Value) (n : Nat) (xs : List Value) (hs : a.eval s = v) (hown : w.ownsRow base e size v n xs)
  (ao : Option Addr) (m c : Nat) (news : List Value) (hx : a.eval x = .slice ao m c) (hl : news.length = m * size) (hnews : ∀ ad,ao = some ad → ∀ j u,news[j]? = some u → w.cell? (ad.add j) = some u) (hnone : ao = none → m = 0 ∧ news = []) (h1 : ∀ u ∈ news,u.oneCell' = true)
  (h63 : n + m ≤ maxLen) (hbytes : (n + m) * bytes ≤ 140737488355328) (hbase : base ≤ w.heap.size)
  (h : ∀ v' w',w'.ownsRow base e size v' (n + m) (xs ++ news) → w.grownBy w' v.ownBlock → wpList P ops Q rest (a.put o.dst v') w') : wpList P ops Q (o :: rest) a w:=by
 cases ao with
 | some ad=>exact wpList_append_own w hgd s x t ho base e i z size bytes ht hi hz hsize hby hzs hsz v n xs hs hown ad m c news hx hl (hnews ad rfl) h1 h63 hbytes hbase fun v' w' a1 a2 _=>h v' w' a1 a2
 | none =>
  obtain ⟨rfl,rfl⟩:=hnone rfl
  refine wpList_plain hgd fun K hK'=>?_
  have hrun : (Builtin.append_ #[t,t] o.type #[v,.slice none 0 c]).run P w = .ok v w:=by
   rcases hown.2 with ⟨rfl,_⟩ | ⟨g',cap',cur,rfl,_,_,hnc,_⟩
   ·simp [Builtin.append_,run_underlying ht,sizeOf,typeInfo,hi,Builtin.lenOf,Builtin.firstCells,storeCells]
   ·simp [Builtin.append_,run_underlying ht,sizeOf,typeInfo,hi,Builtin.lenOf,Builtin.firstCells,hnc,storeCells]
  unfold Oper.wp
  simp [execOp,ho,resolve,invoke,builtin,hs,hx,hrun,Result.andThen]
  exact hK' _ _ (h v w (by simpa using hown) (World.grownBy.refl _ _))
set_option maxHeartbeats 1600000 in
theorem Concat2_c (ls : List (List Bs)) (a : Option Addr) (k c : Nat) (w : World) (h : eJ w ls (.slice a k c)) (htot : ls.flatten.length * 16 ≤ 140737488355328) :
  Calls Tryz.prog 143 #[.slice a k c] w fun e w'=>∃ v,e = .returned v ∧ aD w.heap.size w' ls.flatten v ∧ Below w.heap.size w w':=by
 have hk:=h.len
 have hlen : k ≤ 9223372036854775807:=by have:=le63 hk.2.2;omega
 have L1:=Hd hk.1
 have HX:=Hd h
 have HT:=Hd htot
 clear hk h htot
 go_enter Tryz.func143,Tryz.ntmps143
 go_wp2_with fail
 go_loop [3,11] (fun s i=>∃ j S : Nat,j ≤ k ∧ i = .int .i64 j ∧ s = .int .i64 S ∧ Hid (S = (ls.take j).flatten.length)) (fun _ i=>k - (intOf i).toNat)
 case atStart=>exact ⟨0,0,Nat.zero_le _,rfl,rfl,rfl⟩
 case round =>
  obtain ⟨j,S,hj,rfl,rfl,hS⟩:=hrel
  by_cases hlt : j < k
  ·obtain ⟨T,hT⟩:=aH (l:=ls) (j:=j) (by rw [← L1.out];exact hlt)
   obtain ⟨b,off,rfl,hc⟩:=HX.out.get (bG hT)
   obtain ⟨x0,x1,x2,c0,hx⟩:=hc j _ hT
   have hx1:=hx.len.1
   have e1:=jU hT
   have e2:=gN ls (j + 1)
   rw [e1,List.length_append,← hx1] at e2
   have E1 : Hid (S + x1 = (ls.take (j + 1)).flatten.length):=by show _ = _;rw [e1,List.length_append,hx1,hS.out]
   rw [← hS.out] at e2
   have hbnd : S + x1 ≤ 9223372036854775807:=by have:=HT.out;omega
   have hb0 : x1 ≤ 9223372036854775807:=by omega
   have hb1 : S ≤ 9223372036854775807:=by omega
   clear hc hx e1 e2 hT hx1
   go_wp2_with fail
   all_goals go_round
   case rel=>exact ⟨j + 1,S + x1,by omega,by go_num,by go_num,E1⟩
   case measure=>simp [intOf];omega
  ·have HT' : Hid (S * 16 ≤ 140737488355328):=by have:=HT.out;have:=gN ls j;have:=hS.out;show _ ≤ _;omega
   go_wp2_with fail
   refine (vL _ _ HT'.out).mono ?_
   rintro e w1 ⟨v,rfl,hown,hb⟩
   have HO:=Hd hown
   have HB:=Hd hb
   clear hown hb
   go_wp2_with fail
   obtain ⟨i0,hi0,hz0,hs0,hb0⟩:=info_parts fP
   go_loopw [6,27] (fun u i wr=>∃ (q : Nat) (F : List Bs),q ≤ k ∧ i = .int .i64 q ∧ Hid (F = (ls.take q).flatten) ∧ Hid (aD w.heap.size wr F u ∧ Below w.heap.size w wr)) (fun _ i _=>k - (intOf i).toNat)
   case atStart=>exact ⟨0,[],Nat.zero_le _,rfl,rfl,HO.out,HB.out⟩
   case round =>
    obtain ⟨q,F,hq,rfl,hF,hr⟩:=hrel
    by_cases hlt : q < k
    ·obtain ⟨T,hT⟩:=aH (l:=ls) (j:=q) (by rw [← L1.out];exact hlt)
     obtain ⟨b,off,rfl,hc⟩:=HX.out.get (bG hT)
     obtain ⟨x0,x1,x2,c0,hx⟩:=hc q _ hT
     have hK:=aC hr.out.2
     have d0:=hK _ _ c0
     have hx1:=hx.len.1
     have e2:=gN ls (q + 1)
     rw [jU hT,← hF.out,List.length_append] at e2
     have FT : Hid (F ++ T = (ls.take (q + 1)).flatten):=by show _ = _;rw [jU hT,hF.out]
     have C1 : Hid (∀ ad,x0 = some ad → ∀ j u,(T.map str)[j]? = some u → wr.cell? (ad.add j) = some u):=fun ad ea j u hu=>by
      rw [List.getElem?_map] at hu
      obtain ⟨y,hy,rfl⟩:=Option.map_eq_some_iff.1 hu
      obtain ⟨b1,o1,e1,hc1⟩:=hx.get (bG hy)
      rw [ea] at e1;cases e1
      rw [Addr.add_lit]
      exact hK _ _ (hc1 j y hy)
     have C7 : Hid (x0 = none → x1 = 0 ∧ T.map str = []):=fun e=>by
      by_cases hT0 : T = []
      ·subst hT0;exact ⟨by have:=hx.len.1;simpa using this,rfl⟩
      ·obtain ⟨b1,o1,e1,_⟩:=hx.get hT0
       rw [e] at e1;cases e1
     have C2 : Hid (∀ u ∈ T.map str,u.oneCell' = true):=fun u hu=>by obtain ⟨y,_,rfl⟩:=List.mem_map.1 hu;rfl
     have C3 : Hid (F.length + x1 ≤ maxLen):=by have:=HT.out;show _ ≤ _;unfold maxLen;omega
     have C4 : Hid ((F.length + x1) * 16 ≤ 140737488355328):=by have:=HT.out;show _ ≤ _;omega
     have C5 : Hid ((T.map str).length = x1 * 1):=by show _ = _;rw [List.length_map,hx1];omega
     have C6:=Hd hr.out.2.size
     have X1:=Hd hx1
     clear hc hx c0 e2 hT hx1 hK
     go_wp2_with (at_builtin;refine wpList_append_any _ rfl _ _ 36 rfl w.heap.size 9 i0 (.string ⟨#[]⟩) 1 16 Tryz.underlying36 hi0 hz0 hs0 hb0 rfl (by decide) _ _ _ rfl hr.out.1 x0 x1 x2 (T.map str) rfl C5.out C1.out C7.out C2.out C3.out C4.out C6.out ?_)
     intro v' w2 hown2 hg2
     have R2 : Hid (aD w.heap.size w2 (F ++ T) v' ∧ Below w.heap.size w w2):=by
      refine ⟨?_,hr.out.2.grown hg2 hr.out.2.size (fun kk hkk=>(hr.out.1.lt kk hkk).1)⟩
      unfold aD
      rw [List.length_append,List.map_append,← X1.out]
      exact hown2
     clear hown2 hg2
     go_wp2_with fail
     go_roundw
     case rel=>exact ⟨q + 1,F ++ T,by omega,by go_num,FT,R2⟩
     case measure=>simp [intOf];omega
    ·go_wp2_with fail
     go_ret
     have e : ls.take q = ls:=List.take_of_length_le (by rw [← L1.out];omega)
     have h2:=hr.out
     have e2:=hF.out
     rw [e] at e2
     rw [e2] at h2
     exact ⟨_,rfl,h2.1,h2.2⟩
theorem tV (ls : List (List Bs)) (a : Option Addr) (k c : Nat) (w : World) (h : eJ w ls (.slice a k c)) (htot : ls.flatten.length * 16 ≤ 140737488355328) :
  Calls Tryz.prog 68 #[.slice a k c] w (eL ls.flatten w):=by
 have HX:=Hd h
 have HT:=Hd htot
 clear h htot
 go_enter Tryz.func68,Tryz.ntmps68
 go_wp2_with fail
 refine (Concat2_c ls a k c w HX.out HT.out).mono ?_
 rintro e w1 ⟨v,rfl,h1,h2⟩
 have R : Hid (eL ls.flatten w (.returned v) w1):=⟨v,rfl,h1,h2⟩
 clear h1 h2
 go_wp2_with fail
 go_ret
 exact R
end Go.Proofs.YtcandidgaegghaaGreatDoor
namespace Ly
end Ly
namespace Go.Proofs.YtcandidgaegghaaGreatDoor
open Go Go.RowKit Ly
set_option maxHeartbeats 1600000
open Go Go.RowKit Ly
set_option maxHeartbeats 1600000
open Go Go.RowKit Ly
set_option maxHeartbeats 1600000
open Go Go.RowKit Ly
set_option maxHeartbeats 3200000
open Go Go.RowKit Ly
set_option maxHeartbeats 1600000
open Go Go.RowKit Ly
set_option maxHeartbeats 1600000
def dTo (m : Nat) (O : Bs) : Bs:=if m = 0 then O else Lib.decDigits m ++ O
theorem dTo_step (m : Nat) (O : Bs) : Lib.decDigits m ++ O = dTo (m / 10) (UInt8.ofNat (48 + m % 10) :: O):=by
 unfold dTo
 by_cases h : m < 10
 ·rw [Lib.decDigits_one h,if_pos (by omega),show m % 10 = m by omega];rfl
 ·rw [Lib.decDigits,dif_neg h,if_neg (by omega)];simp
theorem enc0 : Utf8.encode 48 = ⟨#[48]⟩:=rfl
theorem enc1 : Utf8.encode 49 = ⟨#[49]⟩:=rfl
theorem enc2 : Utf8.encode 50 = ⟨#[50]⟩:=rfl
theorem enc3 : Utf8.encode 51 = ⟨#[51]⟩:=rfl
theorem enc4 : Utf8.encode 52 = ⟨#[52]⟩:=rfl
theorem enc5 : Utf8.encode 53 = ⟨#[53]⟩:=rfl
theorem enc6 : Utf8.encode 54 = ⟨#[54]⟩:=rfl
theorem enc7 : Utf8.encode 55 = ⟨#[55]⟩:=rfl
theorem enc8 : Utf8.encode 56 = ⟨#[56]⟩:=rfl
theorem enc9 : Utf8.encode 57 = ⟨#[57]⟩:=rfl
def strZ : Value → Nat
 | .string b=>if b.data.size = 0 then 1 else 0
 | _=>0
theorem vU (N : Nat) (hN : N ≤ 1000000) (w : World) : Calls Tryz.prog 73 #[.int .i64 N] w fun e w'=>e = .returned (str (Lib.decDigits N)) ∧ w = w':=by
 go_enter Tryz.func73,Tryz.ntmps73
 go_wp2_with fail
 go_loopw [0,3] (fun n u wr=>∃ (m : Nat) (O : Bs),n = .int .i64 m ∧ u = str O ∧ m ≤ N ∧ O.length + m ≤ 1000100 ∧ w = wr ∧ Hid ((O = [] ∧ m = N) ∨ (O ≠ [] ∧ dTo m O = Lib.decDigits N))) (fun n u _=>(intOf n).toNat + strZ u)
 case atStart=>exact ⟨N,[],rfl,rfl,Nat.le_refl _,by simp;omega,rfl,.inl ⟨rfl,rfl⟩⟩
 case round =>
  obtain ⟨m,O,rfl,rfl,hm,hO,rfl,hs⟩:=hrel
  by_cases hgo : O = [] ∨ 0 < m
  ·have ST : Hid (dTo (m / 10) (UInt8.ofNat (48 + m % 10) :: O) = Lib.decDigits N):=by
    show _ = _
    rw [← dTo_step]
    rcases hs.out with ⟨rfl,rfl⟩ | ⟨h1,h2⟩
    ·simp
    ·rcases hgo with h | h
     ·exact absurd h h1
     ·rw [← h2,dTo,if_neg (by omega)]
   have hd : (m : Int).tdiv 10 = ((m / 10 : Nat) : Int):=by rw [Int.tdiv_eq_ediv_of_nonneg (by omega)];omega
   have hr:=Nat.mod_lt m (show 0 < 10 by decide)
   have hmod : (m : Int).tmod 10 = ((m % 10 : Nat) : Int):=by rw [Int.tmod_eq_emod_of_nonneg (by omega)];omega
   generalize hq : m / 10 = q at *
   generalize hrr : m % 10 = r at *
   have HQ:=Hd hq
   have HR:=Hd hrr
   have q1 : q ≤ 1000000:=by omega
   clear hq hrr
   rcases hgo with rfl | hpos
   ·rcases (show r = 0 ∨ r = 1 ∨ r = 2 ∨ r = 3 ∨ r = 4 ∨ r = 5 ∨ r = 6 ∨ r = 7 ∨ r = 8 ∨ r = 9 by omega) with rfl | rfl | rfl | rfl | rfl | rfl | rfl | rfl | rfl | rfl
    all_goals
     go_wp2_with fail
     go_roundw
     case rel =>
      refine ⟨q,_,rfl, ?_,by have:=HQ.out;omega, ?_,trivial,.inr ⟨?_,ST.out⟩⟩
      ·simp [enc0,enc1,enc2,enc3,enc4,enc5,enc6,enc7,enc8,enc9,cG]
      ·have:=HQ.out;simp;omega
      ·simp
     case measure=>have:=HQ.out;simp [intOf,strZ,ByteArray.data_append,enc0,enc1,enc2,enc3,enc4,enc5,enc6,enc7,enc8,enc9];try omega
   ·have h1 : (0 : Int) < m:=by omega
    rcases (show r = 0 ∨ r = 1 ∨ r = 2 ∨ r = 3 ∨ r = 4 ∨ r = 5 ∨ r = 6 ∨ r = 7 ∨ r = 8 ∨ r = 9 by omega) with rfl | rfl | rfl | rfl | rfl | rfl | rfl | rfl | rfl | rfl
    all_goals
     cases O
     all_goals
      simp only [List.length_cons,List.length_nil] at hO
      have s0 : (Utf8.encode 48).size = 1:=rfl
      have s1 : (Utf8.encode 49).size = 1:=rfl
      have s2 : (Utf8.encode 50).size = 1:=rfl
      have s3 : (Utf8.encode 51).size = 1:=rfl
      have s4 : (Utf8.encode 52).size = 1:=rfl
      have s5 : (Utf8.encode 53).size = 1:=rfl
      have s6 : (Utf8.encode 54).size = 1:=rfl
      have s7 : (Utf8.encode 55).size = 1:=rfl
      have s8 : (Utf8.encode 56).size = 1:=rfl
      have s9 : (Utf8.encode 57).size = 1:=rfl
      go_wp2_with fail
      go_roundw
      case rel =>
       refine ⟨q,_,rfl, ?_,by have:=HQ.out;omega, ?_,trivial,.inr ⟨?_,ST.out⟩⟩
       ·simp [enc0,enc1,enc2,enc3,enc4,enc5,enc6,enc7,enc8,enc9,cG]
       ·have:=HQ.out;simp at hO ⊢;omega
       ·simp
      case measure=>have:=HQ.out;simp [intOf,strZ,ByteArray.data_append,enc0,enc1,enc2,enc3,enc4,enc5,enc6,enc7,enc8,enc9];try omega
  ·have hm0 : m = 0:=by omega
   subst hm0
   have hO : O ≠ []:=by intro h;exact hgo (.inl h)
   obtain ⟨c,r,rfl⟩:=List.exists_cons_of_ne_nil hO
   go_wp2_with fail
   go_ret
   refine ⟨?_,rfl⟩
   rcases hs.out with ⟨h,_⟩ | ⟨_,h⟩
   ·cases h
   ·rw [← h];rfl
end Go.Proofs.YtcandidgaegghaaGreatDoor
