/- SkeletonClasses: its claims. Conditions: those of each statement; the tables lie as laid. -/
import Derived.Test.YtppfalbnhnpbnaaGreatDoorAwBC
import Derived.Test.YtppfalbnhnpbnaaGreatDoorAwzC
set_option linter.unusedSimpArgs false
set_option linter.unusedVariables false
namespace Go.Proofs.YtppfalbnhnpbnaaGreatDoor
open Go Go.RowKit Ly
set_option maxRecDepth 10000
def clq (l : List Bs) (sd i : Nat) : List Fm × List Fm:=if sd / 2 ^ i % 2 = 1 then ([built ((l.getD i []).take 5)],[]) else ([],[built ((l.getD i []).take 5)])
def clqs (l : List Bs) (sd j : Nat) : List (List Fm × List Fm):=(List.range j).map (clq l sd)
theorem clqs_succ (l : List Bs) (sd j : Nat) : clqs l sd (j + 1) = clqs l sd j ++ [clq l sd j]:=by rw [clqs,List.range_succ,List.map_append];rfl
theorem tW : ∀ l m : List (List Fm × List Fm),cZ (l ++ m) = cZ l ++ cZ m
 | [],m=>rfl
 | p :: l,m=>by simp only [List.cons_append,cZ,tW l m,List.append_assoc]
theorem xE (l : List Bs) (sd j : Nat) : cZ (clqs l sd (j + 1)) = cZ (clqs l sd j) ++ sqDs (clq l sd j):=by rw [clqs_succ,tW];simp [cZ]
theorem clq_ok (l : List Bs) (sd i : Nat) : okSq (clq l sd i).1 (clq l sd i).2:=by
 have R:=pE ((l.getD i []).take 5)
 unfold clq
 split
 ·exact ⟨fun f hf=>(by rw [List.mem_singleton.1 hf];exact R),fun f hf=>(by cases hf),(by simp),(by simp)⟩
 ·exact ⟨fun f hf=>(by cases hf),fun f hf=>(by rw [List.mem_singleton.1 hf];exact R),(by simp),(by simp)⟩
theorem xF (l : List Bs) (sd j : Nat) : ∀ p ∈ clqs l sd j,okSq p.1 p.2:=fun p hp=>by
 obtain ⟨i,-,rfl⟩:=List.mem_map.1 hp
 exact clq_ok l sd i
theorem and1_u8 {q : Nat} (h : q < 256) : bits .and .u8 (q : Int) 1 = ((q % 2 : Nat) : Int):=by
 have e : (BitVec.ofInt 8 (q : Int) &&& BitVec.ofInt 8 1).toNat = q % 2:=by
  rw [BitVec.toNat_and,BitVec.toNat_ofInt,BitVec.toNat_ofInt]
  have h1 : ((q : Int) % (2 ^ 8 : Nat)).toNat = q:=by omega
  have h2 : ((1 : Int) % (2 ^ 8 : Nat)).toNat = 1:=by decide
  rw [h1,h2,Nat.and_one_is_mod]
 show IntKind.u8.wrap ((BitVec.ofInt 8 (q : Int) &&& BitVec.ofInt 8 1).toNat : Nat) = _
 rw [e]
 rcases Nat.mod_two_eq_zero_or_one q with h | h <;> rw [h] <;> rfl
theorem bts_take {w : World} {x : Bs} {a : Option Addr} {n c : Nat} (h : iI w x (.slice a n c)) (m : Nat) (hm : min n 5 = m) : iI w (x.take 5) (.slice a m c):=by
 have hl:=h.len
 obtain ⟨a',cap,e,h1,h2,h3,h5⟩:=At.sl_inv h
 simp only [Value.slice.injEq] at e
 obtain ⟨rfl,rfl,rfl⟩:=e
 have e5 : (x.take 5).length = m:=by rw [List.length_take];omega
 unfold iI
 rw [e5]
 rcases h5 with h5 | ⟨b,off,rfl,h5⟩
 ·have : x = []:=by cases x with | nil=>rfl | cons _ _=>simp at h5
  subst this
  simp at e5
  subst e5
  exact At.sl_nil h2
 ·refine At.sl_mk (by rw [List.length_map,e5];omega) (by omega) h2 fun j d hd=>?_
  rw [List.map_take] at hd
  have hj : j < 5:=by
   rcases Nat.lt_or_ge j 5 with h | h
   ·exact h
   ·rw [List.getElem?_take,if_neg (by omega)] at hd;cases hd
  rw [List.getElem?_take,if_pos hj] at hd
  exact h5 j d hd
theorem fmsA1h {wr w : World} {f : Fm} {a b : Option Addr} {n c m d : Nat} (h : bG (hide (lo wr) w) f.args (.slice a n c) ∧ aN (hide (lo wr) w) f.sub (.slice b m d)) (hl : wr.heap.size ≤ w.heap.size) :
  aN (hide (lo wr) (w.alloc (.cells #[.int .u8 f.op,str f.name,.slice a n c,.slice b m d] 40))) [f] (.slice (some ⟨w.heap.size,0,none⟩) 1 1):=by
 have K:=qZ (w1:=wr) hl (aZ w (.cells #[.int .u8 f.op,str f.name,.slice a n c,.slice b m d] 40))
 refine uS ?_ (h.1.keep K) (h.2.keep K)
 rw [gX _ _ _ (by simp [lo];omega)]
 exact heap_alloc_new _ _
theorem wD {p : Nat → Bool} {wy W8 : World} {g : Nat} (hp : p g = false) (hg : wy.heap[g]? = some (.cells #[.int .u8 0,str [],.slice none 0 0,.slice none 0 0] 40 (0,0))) (k9 : ∀ j,j ≠ g → W8.heap[j]? = wy.heap[j]?) {d : D} {u : Value} (hd : d.live) (h : At (hide p wy) d u) : At (hide p W8) d u:=by
 refine At.off (g:=g) (fun a v hne hc=>?_) (fun off v hc=>?_) d u hd h
 ·have hpa:=eA hc
  rw [cD hpa] at hc ⊢
  rw [World.cell?_of_block (a:=a) (k9 _ hne)]
  exact hc
 ·rw [cD hp,bE hg off] at hc
  match off,hc with
  | 0,hc=>simp at hc;exact .inl hc.symm
  | 1,hc=>simp at hc;exact .inr (.inl hc.symm)
  | 2,hc=>simp at hc;exact .inr (.inr hc.symm)
  | 3,hc=>simp at hc;exact .inr (.inr hc.symm)
  | k + 4,hc=>simp at hc
structure LcT (w : World) (l : List Bs) (sd j : Nat) (U : Value) (W : World) : Prop where
 bw : Below w.heap.size w W
 own : eJ (lo w) w.heap.size W 26 2 j (cZ (clqs l sd j)) U
theorem info26b : (Tryz.prog.info? 26).map (fun i=>(i.zero,i.size,i.bytes)) = some (some (.agg #[.slice none 0 0,.slice none 0 0]),2,48):=by kernel_rfl
set_option maxHeartbeats 16000000 in
theorem classes30_c (l : List Bs) (sd tn : Nat) (hs : sd < 256) (ht : tn < 256) (a : Option Addr) (n c : Nat) (w : World) (hr : cU w) (hp : cK w) (ho : iJ w) (hl : qG w l (.slice a n c)) :
  Calls Tryz.prog 8 #[.slice a n c,.int .u8 sd,.int .u8 tn] w fun e w'=>e = .returned (.bool true) ∧ Below w.heap.size w w':=by
 obtain ⟨L1,L2,L3⟩:=hl.get
 have N1 : n ≤ 9223372036854775807:=le63 L2
 have LN:=Lib.hid L1
 have HR:=Lib.hid hr
 have HP:=Lib.hid hp
 have HO:=Lib.hid ho
 have HL:=Lib.hid hl
 have GE:=Lib.hid L3
 have HS:=Lib.hid hs
 obtain ⟨i0,hi0,hz0,hs0,hb0⟩:=info_parts info26b
 clear hr hp ho hl L1 L2 L3 hs
 go_enter Tryz.func8,Tryz.ntmps8
 go_wp2_with (go_at_call 9;refine (awake_c _ HR.out HP.out).mono ?_;rintro e w1 ⟨rfl,b1⟩;have B1:=Lib.hid b1;clear b1)
 have A0 : Hid (LcT w l sd 0 (.slice none 0 0) w1):=⟨B1.out,eJ.nil _ _ _ _ _⟩
 clear B1
 go_loopw [7,8] (fun u i wr=>∃ (j : Nat) (U : Value),j ≤ 6 ∧ j ≤ n ∧ i = .int .i64 j ∧ U = u ∧ Hid (LcT w l sd j U wr)) (fun _ i _=>6 - (intOf i).toNat)
 case atStart=>exact ⟨0,_,Nat.zero_le _,Nat.zero_le _,rfl,rfl,A0.out⟩
 case round =>
  obtain ⟨j,U,hj6,hjn,rfl,rfl,ST⟩:=hrel
  clear A0
  by_cases hlt : j < n
  ·by_cases hl6 : j < 6
   ·have q1 : (j : Int) < (n : Int):=by omega
    have q2 : (j : Int) < 6:=by omega
    obtain ⟨x,hx⟩:=aT (l:=l) (j:=j) (by rw [← LN.out];exact hlt)
    obtain ⟨bb,off,rfl,ge⟩:=GE.out (aX hx)
    obtain ⟨x0,x1,x2,cx,hbx⟩:=ge j x hx
    have GX : Hid (l.getD j [] = x):=by rw [Hid,List.getD_eq_getElem?_getD,hx];rfl
    have K:=aA ST.out.bw
    have cx:=K _ _ cx
    have hbx:=hbx.keep K
    have lx:=hbx.len
    obtain ⟨m,hm⟩ : ∃ m,min x1 5 = m:=⟨_,rfl⟩
    have hb5:=Lib.hid (bts_take hbx m hm)
    obtain ⟨X,hX⟩ : ∃ X,built (x.take 5) = X:=⟨_,rfl⟩
    have XR : X.right = true:=by rw [← hX];exact pE _
    have XO : X.ok = true:=by unfold Fm.right at XR;simp only [Bool.and_eq_true] at XR;exact XR.1.1
    have HBC : ∀ W,Below wr.heap.size wr W → Calls Tryz.prog 19 #[.slice x0 m x2] W fun e w'=>∃ v,e = .returned v ∧ aV (hide (fun k=>decide (k < wr.heap.size)) w') X v ∧ Below W.heap.size W w':=fun W hW=>by
     rw [← hX]
     refine (built_c (x.take 5) x0 m x2 W (hb5.out.keep (aA hW))).mono ?_
     rintro e w' ⟨fa,fn,fc,fb,fm,fd,rfl,h1,h2,h3⟩
     have up : bI (hide (lo W) w') (hide (fun k=>decide (k < wr.heap.size)) w'):=aH fun k _ h2=>⟨by have:=hW.size;simp only [lo,decide_eq_false_iff_not,Nat.not_lt] at h2 ⊢;omega,rfl⟩
     exact ⟨_,rfl,⟨_,_,_,_,_,_,rfl,h1.keep up,h2.keep up⟩,h3⟩
    have RX : Hid (clq l sd j = if sd / 2 ^ j % 2 = 1 then ([X],[]) else ([],[X])):=by rw [Hid,clq,GX.out,hX]
    clear K hX
    go_wp2_with fail
    refine wp_region_flow_end lc7 (by kernel_rfl) (by kernel_rfl) (by kernel_rfl) 209 rfl 13 (Op.store 40 (Operand.tmp 9) (Operand.tmp 45)) (by kernel_rfl) (by kernel_rfl) [34,35,36,37,38,39,40,41,42,43,44,45,9] [0,1,2,3,4,5,6,7,8,9,10,11,12] (by kernel_rfl) (by kernel_rfl) (rAt (lc7R bb off n c j x0 x1 x2 m wr.heap.size X)) (fZ (lc7_stays bb off n c j x0 x1 x2 m wr.heap.size X))
     (lc7_steps bb off n c j x0 x1 x2 m wr.heap.size X _ _ _ rfl rfl hlt cx (by show min (x1 : Int) 5 = (m : Int);omega) (by omega) lx.2.1 (Nat.le_refl _) HBC) (fun z wy hby hz=>?_)
    have e11 : aV (hide (fun k=>decide (k < wr.heap.size)) wy) X (z 11):=hz 11 (by decide)
    have e12 : zfP wr.heap.size (z 12) wy:=hz 12 (by decide)
    obtain ⟨f0,f1,f2,f3,f4,f5,e11',hf1,hf2⟩:=e11
    obtain ⟨g9,e12',hg9,lg9⟩:=e12
    obtain ⟨r9,b9,k9⟩:=vR (x':=.int .u8 X.op) (y':=str X.name) (z':=.slice f0 f1 f2) (t':=.slice f3 f4 f5) lg9 hby hg9
    obtain ⟨⟨y0,y1,y2,y3⟩,y4,y5,y6,y7⟩:=aL hg9
    obtain ⟨W8,hW8⟩ : ∃ W8,((((wy.setCell ⟨g9,0,none⟩ (.int .u8 X.op)).setCell ⟨g9,1,none⟩ (str X.name)).setCell ⟨g9,2,none⟩ (.slice f0 f1 f2)).setCell ⟨g9,3,none⟩ (.slice f3 f4 f5)) = W8:=⟨_,rfl⟩
    rw [hW8] at r9 b9 k9
    have R9:=Lib.hid r9
    have B9:=Lib.hid b9
    have pg : (fun k=>decide (k < wr.heap.size)) g9 = false:=by simpa using lg9
    have XS : bW X.sub = true:=by cases X;unfold Fm.ok at XO;simp only [Bool.and_eq_true] at XO;exact XO.2
    have KK : Hid (bG (hide (lo wr) W8) X.args (.slice f0 f1 f2) ∧ aN (hide (lo wr) W8) X.sub (.slice f3 f4 f5)):=⟨wD pg hg9 k9 ⟨oU _,kJ _⟩ hf1,wD pg hg9 k9 ⟨tC _ XS,mM _ XS⟩ hf2⟩
    clear hz hby hf1 hf2 r9 b9 k9 pg XS XO XR HBC cx hbx hb5 lx ge hx
    rintro ⟨dst,op2,ty,pos,af,gd⟩ rfl rfl K hK
    simp only [cP,List.map_cons,List.map_nil,List.setIfInBounds_toArray,List.set_cons_zero,List.set_cons_succ,e11',e12']
    have HK:=Lib.hid hK
    clear hK e11' e12'
    go_simp
    try rw [hW8]
    refine HK.out.out _ _ ?_
    clear HK hW8 y0 y1 y2 y3 y4 y5 y6 y7 hg9
    obtain ⟨q,hq⟩ : ∃ q : Nat,sd / 2 ^ j = q:=⟨_,rfl⟩
    have q256 : q < 256:=by rw [← hq];exact Nat.lt_of_le_of_lt (Nat.div_le_self _ _) HS.out
    have hq' : (sd : Int) / 2 ^ j = (q : Int):=by rw [← hq];simp
    have hand:=and1_u8 q256
    have j0 : (0 : Int) ≤ (j : Int):=by omega
    have j8 : (j : Int) ≤ 8:=by omega
    rw [hq] at RX
    clear hq
    obtain ⟨⟨y0,y1,y2,y3⟩,-⟩:=aL R9.out
    have FA:=fmsA1h KK.out B9.out.size
    rcases Nat.mod_two_eq_zero_or_one q with e2 | e2
    ·rw [e2] at hand RX
     have CQ : Hid (clq l sd j = ([],[X])):=by rw [Hid,RX.out];rfl
     clear e2
     go_wp2_with (first
      | (
        at_builtin
        refine wpList_append_own_at _ rfl _ _ 66 rfl w.heap.size 26 i0 (.agg #[.slice none 0 0,.slice none 0 0]) 2 48 Tryz.underlying66 hi0 hz0 hs0 hb0 rfl (by decide) U j xs (by rfl) OW.out ⟨w4.heap.size,0,none⟩ 1 1 [.slice none 0 0,.slice (some ⟨W8.heap.size,0,none⟩) 1 1] (by rfl) rfl (xV _ _ _ _) (fun u hu=>by rcases List.mem_cons.1 hu with rfl | hu;rfl;rw [List.mem_singleton.1 hu];rfl) (by unfold maxLen;omega) (by omega) (by have:=B4.out.size;simp;omega) ?_
        intro v5 w5 hown5 hg5 _ hat5
        have F5:=Lib.hid (FIN.out v5 w5 hown5 hg5 hat5)
        have B5 : Hid (Below w.heap.size w w5):=(B4.out.alloc B4.out.size _).grown hg5 (by have:=B4.out.size;simp;omega) (fun k hk=>(fE ST.out.own k hk).1)
        clear hown5 hg5 hat5 FIN OW)
      | (go_at_call 21;refine (fs_c _ _).mono ?_;rintro e w3 ⟨rfl,rfl⟩)
      | (
        go_at_call 20
        refine (sq_c _ _ _ _ _ _ _).mono ?_
        rintro e w4 ⟨rfl,b4⟩
        have b84:=aG (aZ W8 (.cells #[.int .u8 X.op,str X.name,.slice f0 f1 f2,.slice f3 f4 f5] 40)) b4
        have KW:=qZ (w1:=wr) (by have:=B9.out.size;have:=World.size_alloc W8 (.cells #[.int .u8 X.op,str X.name,.slice f0 f1 f2,.slice f3 f4 f5] 40);omega) b4
        have B4 : Hid (Below w.heap.size w w4):=ST.out.bw.trans ((B9.out.trans (b84.mono B9.out.size)).mono ST.out.bw.size)
        have CE : aU (hide (lo wr) w4) (sqDs ([],[X])) [.slice none 0 0,.slice (some ⟨W8.heap.size,0,none⟩) 1 1]:=aU.cons (At.sl_nil (Nat.zero_le _)) (aU.cons (FA.keep KW) (aU.nil _))
        obtain ⟨xs,ow,fin⟩:=uX (ty:=26) ST.out.own (fun k hk=>by simp [lo];omega) (B9.out.trans (b84.mono B9.out.size)) (aU.keep (lC (w0:=w) (u:=U) (fun g hg=>(fE ST.out.own g hg).2) ST.out.bw.size CE) (bI.refl _))
        have OW:=Lib.hid ow
        have FIN:=Lib.hid fin
        clear ow fin CE KW b84 b4))
     go_roundw
     case rel =>
      refine ⟨j + 1,_,by omega,by omega,by go_num,rfl,B5.out, ?_⟩
      rw [xE,CQ.out]
      exact F5.out
     case measure=>simp [intOf];omega
    ·rw [e2] at hand RX
     have CQ : Hid (clq l sd j = ([X],[])):=by rw [Hid,RX.out];rfl
     clear e2
     go_wp2_with (first
      | (
        at_builtin
        refine wpList_append_own_at _ rfl _ _ 66 rfl w.heap.size 26 i0 (.agg #[.slice none 0 0,.slice none 0 0]) 2 48 Tryz.underlying66 hi0 hz0 hs0 hb0 rfl (by decide) U j xs (by rfl) OW.out ⟨w4.heap.size,0,none⟩ 1 1 [.slice (some ⟨W8.heap.size,0,none⟩) 1 1,.slice none 0 0] (by rfl) rfl (xV _ _ _ _) (fun u hu=>by rcases List.mem_cons.1 hu with rfl | hu;rfl;rw [List.mem_singleton.1 hu];rfl) (by unfold maxLen;omega) (by omega) (by have:=B4.out.size;simp;omega) ?_
        intro v5 w5 hown5 hg5 _ hat5
        have F5:=Lib.hid (FIN.out v5 w5 hown5 hg5 hat5)
        have B5 : Hid (Below w.heap.size w w5):=(B4.out.alloc B4.out.size _).grown hg5 (by have:=B4.out.size;simp;omega) (fun k hk=>(fE ST.out.own k hk).1)
        clear hown5 hg5 hat5 FIN OW)
      | (go_at_call 21;refine (fs_c _ _).mono ?_;rintro e w3 ⟨rfl,rfl⟩)
      | (
        go_at_call 20
        refine (sq_c _ _ _ _ _ _ _).mono ?_
        rintro e w4 ⟨rfl,b4⟩
        have b84:=aG (aZ W8 (.cells #[.int .u8 X.op,str X.name,.slice f0 f1 f2,.slice f3 f4 f5] 40)) b4
        have KW:=qZ (w1:=wr) (by have:=B9.out.size;have:=World.size_alloc W8 (.cells #[.int .u8 X.op,str X.name,.slice f0 f1 f2,.slice f3 f4 f5] 40);omega) b4
        have B4 : Hid (Below w.heap.size w w4):=ST.out.bw.trans ((B9.out.trans (b84.mono B9.out.size)).mono ST.out.bw.size)
        have CE : aU (hide (lo wr) w4) (sqDs ([X],[])) [.slice (some ⟨W8.heap.size,0,none⟩) 1 1,.slice none 0 0]:=aU.cons (FA.keep KW) (aU.cons (At.sl_nil (Nat.zero_le _)) (aU.nil _))
        obtain ⟨xs,ow,fin⟩:=uX (ty:=26) ST.out.own (fun k hk=>by simp [lo];omega) (B9.out.trans (b84.mono B9.out.size)) (aU.keep (lC (w0:=w) (u:=U) (fun g hg=>(fE ST.out.own g hg).2) ST.out.bw.size CE) (bI.refl _))
        have OW:=Lib.hid ow
        have FIN:=Lib.hid fin
        clear ow fin CE KW b84 b4))
     go_roundw
     case rel =>
      refine ⟨j + 1,_,by omega,by omega,by go_num,rfl,B5.out, ?_⟩
      rw [xE,CQ.out]
      exact F5.out
     case measure=>simp [intOf];omega
   ·have q1 : (j : Int) < (n : Int):=by omega
    have q2 : ¬ (j : Int) < 6:=by omega
    obtain ⟨xs0,ow0,-⟩:=ST.out.own
    obtain ⟨ra,rc,rfl⟩:=jW ow0
    obtain ⟨cs,hcs⟩ : ∃ cs,clqs l sd j = cs:=⟨_,rfl⟩
    have CL : Hid (cs.length = j):=by rw [Hid,← hcs,clqs,List.length_map,List.length_range]
    have OKC : Hid (∀ p ∈ cs,okSq p.1 p.2):=by rw [← hcs];exact xF l sd j
    have SQ : Hid (iK wr cs (.slice ra j rc)):=by
     have:=ST.out.own.at (fun k hk=>by simp [lo];omega)
     rw [hcs] at this
     have k:=CL.out
     show At wr (.sl 2 cs.length (cZ cs)) _
     rw [k]
     exact At.keep bL _ _ this
    have BW:=Lib.hid ST.out.bw
    have NC : Hid (∀ W,Below w.heap.size w W → iK W [] (.slice none 0 0) → Calls Tryz.prog 31 #[.slice none 0 0] W fun e w'=>∃ ra' rc',e = .returned (.tuple #[.slice ra' 0 rc',.int .i64 0]) ∧ Below W.heap.size W w'):=fun W hW hv=>(lQ [] (fun p hp=>by cases hp) W none 0 0 (HR.out.keep (aA hW)) (HP.out.below hW) (HO.out.keep (aA hW)) hv (by simp)).mono fun e w' ⟨ra',rc',h1,h2,h3⟩=>⟨ra',rc',h1,h3⟩
    have CC : Hid (∀ W ds a' n' c',Below w.heap.size w W → iK W ds (.slice a' n' c') → (∀ p ∈ ds,okSq p.1 p.2) → ds.length ≤ 6 → Calls Tryz.prog 31 #[.slice a' n' c'] W fun e w'=>∃ ra' rc',e = .returned (.tuple #[.slice ra' ds.length rc',.int .i64 0]) ∧ jF w' (kN ds) (.slice ra' ds.length rc') ∧ Below W.heap.size W w'):=fun W ds a' n' c' hW hv hok hl=>lQ ds hok W a' n' c' (HR.out.keep (aA hW)) (HP.out.below hW) (HO.out.keep (aA hW)) hv (by omega)
    clear ow0 hcs ST
    rcases Nat.eq_zero_or_pos j with hz | hz
    ·subst hz
     exact absurd (by decide) q2
    ·have jp : ¬ (j : Int) = 0:=by omega
     have TM : (tn : Int).tmod (j : Int) = ((tn % j : Nat) : Int):=by rw [← Int.ofNat_tmod]
     obtain ⟨k,hk⟩ : ∃ k,tn % j = k:=⟨_,rfl⟩
     have KJ : k < j:=by rw [← hk];exact Nat.mod_lt _ hz
     rw [hk] at TM
     clear hk
     go_wp2_with (
            go_at_call 31
            refine (CC.out _ cs _ _ _ BW.out SQ.out OKC.out (by have:=CL.out;omega)).mono ?_
            rintro e w2 ⟨ra',rc',he2,h1,h2⟩
            rw [CL.out] at he2 h1
            subst he2
            have B2:=Lib.hid (BW.out.trans (h2.mono BW.out.size))
            have I2:=Lib.hid h1
            have SQ2:=Lib.hid (SQ.out.keep (aA h2))
            clear h1 h2)
     obtain ⟨b,off,vs,rfl,cv,gv⟩:=vF SQ2.out (by intro e;have e2:=jX cs;rw [e,CL.out] at e2;simp at e2;omega)
     have sl:=SQ2.out.len
     have CV:=Lib.hid cv
     have GV:=Lib.hid gv
     have v2 : Hid (vs.length = j * 2):=by rw [Hid,cv.1,jX,CL.out]
     have j1 : k ≤ j:=by omega
     have j2 : j ≤ rc:=sl.2.1
     have j4 : k ≤ rc:=by omega
     have j5 : ¬ rc = k:=by omega
     have j3 : rc ≤ 9223372036854775807:=le63 sl.2.2
     have JM:=Lib.hid (Nat.le_trans sl.2.1 sl.2.2)
     clear cv gv sl
     refine wp_region_held_drew (S:=fun w'=>Below w2.heap.size w2 w') (by kernel_rfl) (Below.refl _ _).drew (fun hHeld=>?_)
     refine wpAnyH_take (i:=1) (v:=?_) rfl (by kernel_rfl) (by kernel_rfl) (by kernel_rfl) (fun _ _ _ h=>h) (Or.inl ⟨by rfl, ?_⟩) (by assumption) ?_
     rotate_left
     ·(intro w0 hSw;go_simp;(try with_reducible rfl))
     try simp only [Act.put,List.getElem_toArray,List.getElem_cons_succ,List.getElem_cons_zero,List.setIfInBounds_toArray,List.set_cons_zero,List.set_cons_succ]
     refine wpAnyH_take (i:=2) (v:=?_) rfl (by kernel_rfl) (by kernel_rfl) (by kernel_rfl) (fun _ _ _ h=>h) (Or.inl ⟨by rfl, ?_⟩) (by assumption) ?_
     rotate_left
     ·(intro w0 hSw;go_simp;(try with_reducible rfl))
     try simp only [Act.put,List.getElem_toArray,List.getElem_cons_succ,List.getElem_cons_zero,List.setIfInBounds_toArray,List.set_cons_zero,List.set_cons_succ]
     refine wpAnyH_take (i:=3) (v:=?_) rfl (by kernel_rfl) (by kernel_rfl) (by kernel_rfl) (fun _ _ _ h=>h) (Or.inl ⟨by rfl, ?_⟩) (by assumption) ?_
     rotate_left
     ·(intro w0 hSw;go_simp;(try with_reducible rfl))
     try simp only [Act.put,List.getElem_toArray,List.getElem_cons_succ,List.getElem_cons_zero,List.setIfInBounds_toArray,List.set_cons_zero,List.set_cons_succ]
     refine wpAnyH_take (i:=5) (v:=?_) rfl (by kernel_rfl) (by kernel_rfl) (by kernel_rfl) (fun _ _ _ h=>h) (Or.inl ⟨by rfl, ?_⟩) (by assumption) ?_
     rotate_left
     ·(intro w0 hSw;go_simp;(try with_reducible rfl))
     try simp only [Act.put,List.getElem_toArray,List.getElem_cons_succ,List.getElem_cons_zero,List.setIfInBounds_toArray,List.set_cons_zero,List.set_cons_succ]
     refine wpAnyH_take (i:=6) (v:=?_) rfl (by kernel_rfl) (by kernel_rfl) (by kernel_rfl) (fun _ _ _ h=>h) (Or.inl ⟨by rfl, ?_⟩) (by assumption) ?_
     rotate_left
     ·(intro w0 hSw;go_simp;(try with_reducible rfl))
     try simp only [Act.put,List.getElem_toArray,List.getElem_cons_succ,List.getElem_cons_zero,List.setIfInBounds_toArray,List.set_cons_zero,List.set_cons_succ]
     refine wpAnyH_take (i:=7) (v:=?_) rfl (by kernel_rfl) (by kernel_rfl) (by kernel_rfl) (fun _ _ _ h=>h) (Or.inl ⟨by rfl, ?_⟩) (by assumption) ?_
     rotate_left
     ·(intro w0 hSw;go_simp;(try with_reducible rfl))
     try simp only [Act.put,List.getElem_toArray,List.getElem_cons_succ,List.getElem_cons_zero,List.setIfInBounds_toArray,List.set_cons_zero,List.set_cons_succ]
     refine wpAnyH_ready (rs:=[0]) (by kernel_rfl) (by simp) ?_
     refine AllReadyH.cons rfl (fun K hK=>?_) AllReadyH.nil
     go_simp
     have OW0 : (w2.alloc (Obj.cells #[] 26)).drew.ownsRow w2.heap.size 26 2 (.slice (some ⟨w2.heap.size,0,none⟩) 0 0) 0 []:=⟨rfl,.inr ⟨_,0,#[],rfl,Nat.le_refl _,heap_alloc_new w2 _,Nat.le_refl _,Nat.zero_le _,rfl,rfl⟩⟩
     have hS0 : Below w2.heap.size w2 (w2.alloc (Obj.cells #[] 26)).drew:=((Below.refl _ w2).alloc (Nat.le_refl _) _).drew
     refine hK.out _ _ hS0 (fun hHeld2=>?_)
     clear hK K hHeld hS0
     try simp only [Act.put,List.getElem_toArray,List.getElem_cons_succ,List.getElem_cons_zero,List.setIfInBounds_toArray,List.set_cons_zero,List.set_cons_succ]
     refine wpAnyH_ready (rs:=[4]) (by kernel_rfl) (by simp) ?_
     refine AllReadyH.cons rfl (fun K hK=>?_) AllReadyH.nil
     refine bT rfl _ _ 66 rfl w2.heap.size 26 i0 (.agg #[.slice none 0 0,.slice none 0 0]) 2 48 Tryz.underlying66 hi0 hz0 hs0 hb0 rfl (by decide) (.slice (some ⟨w2.heap.size,0,none⟩) 0 0) 0 [] (by rfl) OW0 ⟨b,off + k * 2,none⟩ (j - k) (rc - k) (vs.drop (k * 2)) (by rfl) (by rw [List.length_drop,v2.out];omega) (fun i u hu=>by rw [Addr.add_lit,Nat.add_assoc];rw [List.getElem?_drop] at hu;exact aA hHeld2 _ _ (GV.out _ _ hu)) (fun u hu=>qD CV.out u (List.mem_of_mem_drop hu)) (by unfold maxLen;omega) (by omega) hHeld2.size ?_
     intro v4 w4 h4 hg4 hat4
     have b4 : Below w2.heap.size w2 w4:=hHeld2.grown hg4 hHeld2.size (fun q hq=>(OW0.lt q hq).1)
     clear hat4 OW0 hg4
     refine hK.out _ _ b4 (fun hHeld3=>?_)
     clear hK K hHeld2 b4
     try simp only [Act.put,List.getElem_toArray,List.getElem_cons_succ,List.getElem_cons_zero,List.setIfInBounds_toArray,List.set_cons_zero,List.set_cons_succ]
     refine wpAnyH_ready (rs:=[8]) (by kernel_rfl) (by simp) ?_
     refine AllReadyH.cons rfl (fun K hK=>?_) AllReadyH.nil
     refine bT rfl _ _ 66 rfl w2.heap.size 26 i0 (.agg #[.slice none 0 0,.slice none 0 0]) 2 48 Tryz.underlying66 hi0 hz0 hs0 hb0 rfl (by decide) v4 (0 + (j - k)) ([] ++ vs.drop (k * 2)) (by rfl) h4 ⟨b,off,none⟩ k rc (vs.take (k * 2)) (by rfl) (by rw [List.length_take,v2.out];omega) (fun i u hu=>by rw [Addr.add_lit];rw [List.getElem?_take] at hu;split at hu;exact aA hHeld3 _ _ (GV.out _ _ hu);cases hu) (fun u hu=>qD CV.out u (List.mem_of_mem_take hu)) (by unfold maxLen;omega) (by omega) hHeld3.size ?_
     intro v5 w5 h5 hg5 hat5
     have b5 : Below w2.heap.size w2 w5:=hHeld3.grown hg5 hHeld3.size (fun q hq=>(h4.lt q hq).1)
     rw [List.nil_append,show 0 + (j - k) + k = j by omega] at h5
     obtain ⟨ta,tc,rfl,ts⟩:=yI CL.out j1 CV.out b5 h5
     have TS:=Lib.hid ts
     clear hat5 hg5 h4 h5 ts
     refine hK.out _ _ b5 (fun hHeld4=>?_)
     clear hK K hHeld3 b5
     try simp only [Act.put,List.getElem_toArray,List.getElem_cons_succ,List.getElem_cons_zero,List.setIfInBounds_toArray,List.set_cons_zero,List.set_cons_succ]
     refine wpAnyH_ready (rs:=[9]) (by kernel_rfl) (by simp) ?_
     refine AllReadyH.cons rfl (fun K hK=>?_) AllReadyH.nil
     go_simp
     go_at_call 31
     refine (CC.out _ (fN k cs) _ _ _ (B2.out.trans (hHeld4.mono B2.out.size)) TS.out (fun p hp=>OKC.out p (oW hp)) (by rw [fF (by rw [CL.out];exact j1),CL.out];exact hj6)).mono ?_
     rintro e w6 ⟨rb,rd,he6,h1,h2⟩
     rw [fF (by rw [CL.out];exact j1),CL.out] at he6 h1
     subst he6
     have B6 : Below w2.heap.size w2 w6:=hHeld4.trans (h2.mono hHeld4.size)
     have I6:=Lib.hid h1
     clear h1 h2
     go_simp
     refine hK.out _ _ B6 (fun hHeld5=>?_)
     clear hK K hHeld4 B6 TS
     try simp only [Act.put,List.getElem_toArray,List.getElem_cons_succ,List.getElem_cons_zero,List.setIfInBounds_toArray,List.set_cons_zero,List.set_cons_succ]
     refine wpAnyH_take (i:=10) (v:=?_) rfl (by kernel_rfl) (by kernel_rfl) (by kernel_rfl) (fun _ _ _ h=>h) (Or.inl ⟨by rfl, ?_⟩) (by assumption) ?_
     rotate_left
     ·(intro w0 hSw;go_simp;(try with_reducible rfl))
     try simp only [Act.put,List.getElem_toArray,List.getElem_cons_succ,List.getElem_cons_zero,List.setIfInBounds_toArray,List.set_cons_zero,List.set_cons_succ]
     refine wpAnyH_take (i:=11) (v:=?_) rfl (by kernel_rfl) (by kernel_rfl) (by kernel_rfl) (fun _ _ _ h=>h) (Or.inl ⟨by rfl, ?_⟩) (by assumption) ?_
     rotate_left
     ·(intro w0 hSw;go_simp;(try with_reducible rfl))
     try simp only [Act.put,List.getElem_toArray,List.getElem_cons_succ,List.getElem_cons_zero,List.setIfInBounds_toArray,List.set_cons_zero,List.set_cons_succ]
     refine wpAnyH_take (i:=12) (v:=?_) rfl (by kernel_rfl) (by kernel_rfl) (by kernel_rfl) (fun _ _ _ h=>h) (Or.inl ⟨by rfl, ?_⟩) (by assumption) ?_
     rotate_left
     ·(intro w0 hSw;go_simp;(try with_reducible rfl))
     try simp only [Act.put,List.getElem_toArray,List.getElem_cons_succ,List.getElem_cons_zero,List.setIfInBounds_toArray,List.set_cons_zero,List.set_cons_succ]
     refine wpAnyH_take (i:=13) (v:=?_) rfl (by kernel_rfl) (by kernel_rfl) (by kernel_rfl) (fun _ _ _ h=>h) (Or.inl ⟨by rfl, ?_⟩) (by assumption) ?_
     rotate_left
     ·(intro w0 hSw;go_simp;(try with_reducible rfl))
     try simp only [Act.put,List.getElem_toArray,List.getElem_cons_succ,List.getElem_cons_zero,List.setIfInBounds_toArray,List.set_cons_zero,List.set_cons_succ]
     refine wpAnyH_take (i:=14) (v:=?_) rfl (by kernel_rfl) (by kernel_rfl) (by kernel_rfl) (fun _ _ _ h=>h) (Or.inl ⟨by rfl, ?_⟩) (by assumption) ?_
     rotate_left
     ·(intro w0 hSw;go_simp;(try with_reducible rfl))
     try simp only [Act.put,List.getElem_toArray,List.getElem_cons_succ,List.getElem_cons_zero,List.setIfInBounds_toArray,List.set_cons_zero,List.set_cons_succ]
     refine wpAnyH_done (by kernel_rfl) ?_ _
     have B6 : Hid (Below w.heap.size w w6):=B2.out.trans (hHeld5.mono B2.out.size)
     have I7:=Lib.hid (I2.out.keep (aA hHeld5))
     have SQ6:=Lib.hid (SQ2.out.keep (aA hHeld5))
     clear hHeld5 I2 SQ2 CV GV B2 BW SQ NC CC
     go_wp2_with fail
     have jn : cs ≠ []:=by intro e;have:=CL.out;rw [e] at this;simp at this;omega
     obtain ⟨ib,io,rfl,g7⟩:=I7.out.get (by intro e;have e2:=congrArg List.length e;simp [kN,keysOf] at e2;exact jn e2)
     obtain ⟨kb,ko,rfl,g6⟩:=I6.out.get (by intro e;have e2:=congrArg List.length e;simp [kN,keysOf] at e2;have:=fF (k:=k) (l:=cs) (by rw [CL.out];exact j1);rw [e2,CL.out] at this;simp at this;omega)
     obtain ⟨sb,so,se,gs⟩:=SQ6.out.get jn
     simp only [Option.some.injEq,Addr.mk.injEq] at se
     obtain ⟨rfl,rfl,-⟩:=se
     have GA : Hid (∀ q,q < j → w6.cell? ⟨ib,io + q,none⟩ = some (.int .i64 (dW cs q : Nat))):=fun q hq=>g7 q _ (qB (by rw [CL.out];exact hq))
     have GB : Hid (∀ q,q < j → w6.cell? ⟨kb,ko + q,none⟩ = some (.int .i64 (dW (fN k cs) q : Nat))):=fun q hq=>g6 q _ (qB (by rw [fF (by rw [CL.out];exact j1),CL.out];exact hq))
     have GS:=Lib.hid gs
     clear g7 g6 gs jn I6 I7 SQ6
     go_loopw [120] (fun i wr2=>∃ q : Nat,q ≤ j ∧ i = .int .i64 q ∧ Hid (Below w6.heap.size w6 wr2)) (fun i _=>j - (intOf i).toNat)
     case atStart=>exact ⟨0,Nat.zero_le _,rfl,Below.refl _ _⟩
     case round =>
      obtain ⟨q,hq,rfl,BQ⟩:=hrel
      by_cases hlt2 : q < j
      ·obtain ⟨A,hA⟩ : ∃ A,dW cs q = A:=⟨_,rfl⟩
       have A1 : A ≤ q:=by rw [← hA];exact yT (by rw [CL.out];exact hlt2)
       have A2:=vL (cs:=cs) (i:=q) (by rw [CL.out];exact hlt2)
       rw [hA] at A2
       have c1:=aA BQ.out _ _ (GA.out q hlt2)
       rw [hA] at c1
       have c2:=aA BQ.out _ _ (GA.out A (by omega))
       rw [A2] at c2
       have HA:=Lib.hid hA
       clear hA A2
       have a0 : ¬ (A : Int) < 0:=by omega
       have a1 : ¬ (q : Int) < (A : Int):=by omega
       have a2 : (q : Int) < (j : Int):=by omega
       have a3 : A < j:=by omega
       have a4 : (A : Int) < (j : Int):=by omega
       go_upto_region 23 with fail
       go_quiet (fail)
       clear c1 c2
       go_wp2_with fail
       go_loopw [152] (fun i wr3=>∃ t : Nat,t ≤ j ∧ i = .int .i64 t ∧ Hid (Below w6.heap.size w6 wr3)) (fun i _=>j - (intOf i).toNat)
       case atStart=>exact ⟨0,Nat.zero_le _,rfl,bR BQ.out _⟩
       case round =>
        obtain ⟨t,ht2,rfl,BT⟩:=hrel
        by_cases hlt3 : t < j
        ·obtain ⟨p1,hp1⟩:=aT (l:=cs) (j:=q) (by rw [CL.out];exact hlt2)
         obtain ⟨p2,hp2⟩:=aT (l:=cs) (j:=t) (by rw [CL.out];exact hlt3)
         obtain ⟨x1,x2,x3,x4,x5,x6,cx1,cx2,fx1,fx2⟩:=GS.out q p1 hp1
         obtain ⟨y1,y2,y3,y4,y5,y6,cy1,cy2,fy1,fy2⟩:=GS.out t p2 hp2
         have ZC:=Lib.hid (And.intro cx1 (And.intro cx2 (And.intro cy1 cy2)))
         have KJL : k < cs.length:=by rw [CL.out];exact KJ
         have S1:=qO OKC.out hp1 hp2
         have S2:=vM OKC.out KJL (by rw [CL.out];exact hlt2) (by rw [CL.out];exact hlt3) hp1 hp2
         rw [HA.out] at S1
         rw [CL.out] at S2
         have SMC : Hid (∀ W,Below w6.heap.size w6 W → Calls Tryz.prog 12 #[.agg #[.slice x1 x2 x3,.slice x4 x5 x6],.agg #[.slice y1 y2 y3,.slice y4 y5 y6]] W fun e w'=>e = .returned (.tuple #[.bool (fQ p1.1 p1.2 p2.1 p2.2),.int .i64 0]) ∧ Below W.heap.size W w'):=fun W hW=>qH _ _ _ _ _ _ W (HR.out.keep (aA (B6.out.trans (hW.mono B6.out.size)))) (HP.out.below (B6.out.trans (hW.mono B6.out.size))) ⟨_,_,_,_,_,_,rfl,fx1.keep (aA hW),fx2.keep (aA hW)⟩ ⟨_,_,_,_,_,_,rfl,fy1.keep (aA hW),fy2.keep (aA hW)⟩ (OKC.out p1 (List.mem_of_getElem? hp1)) (OKC.out p2 (List.mem_of_getElem? hp2))
         obtain ⟨D,hD⟩ : ∃ D,fQ p1.1 p1.2 p2.1 p2.2 = D:=⟨_,rfl⟩
         rw [hD] at SMC S1 S2
         obtain ⟨A3,hA3⟩ : ∃ x,dW cs t = x:=⟨_,rfl⟩
         rw [hA3] at S1
         obtain ⟨i1,hi1⟩ : ∃ x,(q + j - k) % j = x:=⟨_,rfl⟩
         obtain ⟨i2,hi2⟩ : ∃ x,(t + j - k) % j = x:=⟨_,rfl⟩
         rw [hi1,hi2] at S2
         obtain ⟨E1,hE1⟩ : ∃ x,dW (fN k cs) i1 = x:=⟨_,rfl⟩
         obtain ⟨E2,hE2⟩ : ∃ x,dW (fN k cs) i2 = x:=⟨_,rfl⟩
         rw [hE1,hE2] at S2
         have l1 : i1 < j:=by rw [← hi1];exact Nat.mod_lt _ hz
         have l2 : i2 < j:=by rw [← hi2];exact Nat.mod_lt _ hz
         have g1:=GA.out q hlt2
         have g2:=GA.out t hlt3
         have g3:=GB.out i1 l1
         have g4:=GB.out i2 l2
         rw [HA.out] at g1
         rw [hA3] at g2
         rw [hE1] at g3
         rw [hE2] at g4
         have GG:=Lib.hid (And.intro g1 (And.intro g2 (And.intro g3 g4)))
         have W1 : RowKit.wrap64 ((q : Int) - (k : Int)) = (q : Int) - (k : Int):=(IntWalk.i64_left _).symm.trans (IntWalk.i64_in _ (by omega))
         have W2 : RowKit.wrap64 ((q : Int) - (k : Int) + (j : Int)) = (q : Int) - (k : Int) + (j : Int):=(IntWalk.i64_left _).symm.trans (IntWalk.i64_in _ (by omega))
         have W3 : RowKit.wrap64 ((t : Int) - (k : Int)) = (t : Int) - (k : Int):=(IntWalk.i64_left _).symm.trans (IntWalk.i64_in _ (by omega))
         have W4 : RowKit.wrap64 ((t : Int) - (k : Int) + (j : Int)) = (t : Int) - (k : Int) + (j : Int):=(IntWalk.i64_left _).symm.trans (IntWalk.i64_in _ (by omega))
         have M1 : ((q : Int) - (k : Int) + (j : Int)).tmod (j : Int) = (i1 : Int):=by rw [show (q : Int) - (k : Int) + (j : Int) = ((q + j - k : Nat) : Int) by omega,← Int.ofNat_tmod,hi1]
         have M2 : ((t : Int) - (k : Int) + (j : Int)).tmod (j : Int) = (i2 : Int):=by rw [show (t : Int) - (k : Int) + (j : Int) = ((t + j - k : Nat) : Int) by omega,← Int.ofNat_tmod,hi2]
         have a5 : (t : Int) < (j : Int):=by omega
         have HS1:=Lib.hid S1
         have HS2:=Lib.hid S2
         have HW:=Lib.hid (And.intro W1 (And.intro W2 (And.intro W3 (And.intro W4 (And.intro M1 M2)))))
         clear S1 S2 W1 W2 W3 W4 M1 M2 hp1 hp2 cx1 cx2 cy1 cy2 fx1 fx2 fy1 fy2 g1 g2 g3 g4 hA3 hE1 hE2 hi1 hi2 hD KJL
         go_upto_region 28 with fail
         refine wp_region_held_drew (S:=fun w'=>Below w6.heap.size w6 w') (by kernel_rfl) BT.out.drew (fun hHeld=>?_)
         refine wpAnyH_take (i:=0) (v:=?_) rfl (by kernel_rfl) (by kernel_rfl) (by kernel_rfl) (fun _ _ _ h=>h) (Or.inl ⟨by rfl, ?_⟩) (by assumption) ?_
         rotate_left
         ·(intro w0 hSw;go_simp;(try with_reducible rfl))
         try simp only [Act.put,List.getElem_toArray,List.getElem_cons_succ,List.getElem_cons_zero,List.setIfInBounds_toArray,List.set_cons_zero,List.set_cons_succ]
         refine wpAnyH_take (i:=1) (v:=?_) rfl (by kernel_rfl) (by kernel_rfl) (by kernel_rfl) (fun _ _ _ h=>h) (Or.inl ⟨by rfl, ?_⟩) (by assumption) ?_
         rotate_left
         ·(intro w0 hSw;go_simp;(try with_reducible rfl))
         try simp only [Act.put,List.getElem_toArray,List.getElem_cons_succ,List.getElem_cons_zero,List.setIfInBounds_toArray,List.set_cons_zero,List.set_cons_succ]
         refine wpAnyH_take (i:=2) (v:=?_) rfl (by kernel_rfl) (by kernel_rfl) (by kernel_rfl) (fun _ _ _ h=>h) (Or.inl ⟨by rfl, ?_⟩) (by assumption) ?_
         rotate_left
         ·(intro w0 hSw;go_simp;(try with_reducible rfl))
         try simp only [Act.put,List.getElem_toArray,List.getElem_cons_succ,List.getElem_cons_zero,List.setIfInBounds_toArray,List.set_cons_zero,List.set_cons_succ]
         refine wpAnyH_take (i:=3) (v:=?_) rfl (by kernel_rfl) (by kernel_rfl) (by kernel_rfl) (fun _ _ _ h=>h) (Or.inl ⟨by rfl, ?_⟩) (by assumption) ?_
         rotate_left
         ·(intro w0 hSw;obtain ⟨z1,z2,-,-⟩:=ZC.out;have z3:=aA hSw _ _ z1;have z4:=aA hSw _ _ z2;go_simp;(try with_reducible rfl))
         try simp only [Act.put,List.getElem_toArray,List.getElem_cons_succ,List.getElem_cons_zero,List.setIfInBounds_toArray,List.set_cons_zero,List.set_cons_succ]
         refine wpAnyH_take (i:=4) (v:=?_) rfl (by kernel_rfl) (by kernel_rfl) (by kernel_rfl) (fun _ _ _ h=>h) (Or.inl ⟨by rfl, ?_⟩) (by assumption) ?_
         rotate_left
         ·(intro w0 hSw;go_simp;(try with_reducible rfl))
         try simp only [Act.put,List.getElem_toArray,List.getElem_cons_succ,List.getElem_cons_zero,List.setIfInBounds_toArray,List.set_cons_zero,List.set_cons_succ]
         refine wpAnyH_take (i:=5) (v:=?_) rfl (by kernel_rfl) (by kernel_rfl) (by kernel_rfl) (fun _ _ _ h=>h) (Or.inl ⟨by rfl, ?_⟩) (by assumption) ?_
         rotate_left
         ·(intro w0 hSw;go_simp;(try with_reducible rfl))
         try simp only [Act.put,List.getElem_toArray,List.getElem_cons_succ,List.getElem_cons_zero,List.setIfInBounds_toArray,List.set_cons_zero,List.set_cons_succ]
         refine wpAnyH_take (i:=6) (v:=?_) rfl (by kernel_rfl) (by kernel_rfl) (by kernel_rfl) (fun _ _ _ h=>h) (Or.inl ⟨by rfl, ?_⟩) (by assumption) ?_
         rotate_left
         ·(intro w0 hSw;go_simp;(try with_reducible rfl))
         try simp only [Act.put,List.getElem_toArray,List.getElem_cons_succ,List.getElem_cons_zero,List.setIfInBounds_toArray,List.set_cons_zero,List.set_cons_succ]
         refine wpAnyH_take (i:=7) (v:=?_) rfl (by kernel_rfl) (by kernel_rfl) (by kernel_rfl) (fun _ _ _ h=>h) (Or.inl ⟨by rfl, ?_⟩) (by assumption) ?_
         rotate_left
         ·(intro w0 hSw;obtain ⟨-,-,z1,z2⟩:=ZC.out;have z3:=aA hSw _ _ z1;have z4:=aA hSw _ _ z2;go_simp;(try with_reducible rfl))
         try simp only [Act.put,List.getElem_toArray,List.getElem_cons_succ,List.getElem_cons_zero,List.setIfInBounds_toArray,List.set_cons_zero,List.set_cons_succ]
         refine wpAnyH_ready (rs:=[8]) (by kernel_rfl) (by simp) ?_
         refine AllReadyH.cons rfl (fun K hK=>?_) AllReadyH.nil
         go_simp
         go_at_call 12
         refine (SMC.out _ hHeld).mono ?_
         rintro e w7 ⟨rfl,h7⟩
         go_simp
         refine hK.out _ _ (hHeld.trans (h7.mono hHeld.size)) (fun hHeld2=>?_)
         clear hK K hHeld h7
         try simp only [Act.put,List.getElem_toArray,List.getElem_cons_succ,List.getElem_cons_zero,List.setIfInBounds_toArray,List.set_cons_zero,List.set_cons_succ]
         refine wpAnyH_take (i:=9) (v:=?_) rfl (by kernel_rfl) (by kernel_rfl) (by kernel_rfl) (fun _ _ _ h=>h) (Or.inl ⟨by rfl, ?_⟩) (by assumption) ?_
         rotate_left
         ·(intro w0 hSw;go_simp;(try with_reducible rfl))
         try simp only [Act.put,List.getElem_toArray,List.getElem_cons_succ,List.getElem_cons_zero,List.setIfInBounds_toArray,List.set_cons_zero,List.set_cons_succ]
         refine wpAnyH_take (i:=10) (v:=?_) rfl (by kernel_rfl) (by kernel_rfl) (by kernel_rfl) (fun _ _ _ h=>h) (Or.inl ⟨by rfl, ?_⟩) (by assumption) ?_
         rotate_left
         ·(intro w0 hSw;go_simp;(try with_reducible rfl))
         try simp only [Act.put,List.getElem_toArray,List.getElem_cons_succ,List.getElem_cons_zero,List.setIfInBounds_toArray,List.set_cons_zero,List.set_cons_succ]
         refine wpAnyH_take (i:=11) (v:=?_) rfl (by kernel_rfl) (by kernel_rfl) (by kernel_rfl) (fun _ _ _ h=>h) (Or.inl ⟨by rfl, ?_⟩) (by assumption) ?_
         rotate_left
         ·(intro w0 hSw;go_simp;(try with_reducible rfl))
         try simp only [Act.put,List.getElem_toArray,List.getElem_cons_succ,List.getElem_cons_zero,List.setIfInBounds_toArray,List.set_cons_zero,List.set_cons_succ]
         refine wpAnyH_take (i:=12) (v:=?_) rfl (by kernel_rfl) (by kernel_rfl) (by kernel_rfl) (fun _ _ _ h=>h) (Or.inl ⟨by rfl, ?_⟩) (by assumption) ?_
         rotate_left
         ·(intro w0 hSw;go_simp;(try with_reducible rfl))
         try simp only [Act.put,List.getElem_toArray,List.getElem_cons_succ,List.getElem_cons_zero,List.setIfInBounds_toArray,List.set_cons_zero,List.set_cons_succ]
         refine wpAnyH_take (i:=13) (v:=?_) rfl (by kernel_rfl) (by kernel_rfl) (by kernel_rfl) (fun _ _ _ h=>h) (Or.inl ⟨by rfl, ?_⟩) (by assumption) ?_
         rotate_left
         ·(intro w0 hSw;go_simp;(try with_reducible rfl))
         try simp only [Act.put,List.getElem_toArray,List.getElem_cons_succ,List.getElem_cons_zero,List.setIfInBounds_toArray,List.set_cons_zero,List.set_cons_succ]
         refine wpAnyH_done (by kernel_rfl) ?_ _
         have B7:=Lib.hid hHeld2
         clear hHeld2 SMC ZC
         go_upto_region 29 with fail
         obtain ⟨k1,k2,k3,k4⟩:=GG.out
         have m1:=aA B7.out _ _ k1
         have m2:=aA B7.out _ _ k2
         have m3:=aA B7.out _ _ k3
         have m4:=aA B7.out _ _ k4
         obtain ⟨W1,W2,W3,W4,M1,M2⟩:=HW.out
         have n1 : (i1 : Int) < (j : Int):=by omega
         have n2 : (i2 : Int) < (j : Int):=by omega
         clear k1 k2 k3 k4
         cases D with
         | true =>
          have e1 : A = A3:=HS1.out.2 rfl
          have e2 : E1 = E2:=HS2.out.2 rfl
          subst e1
          subst e2
          go_quiet (fail)
          go_wp2_with fail
          go_roundw
          case rel=>exact ⟨t + 1,by omega,by go_num,by first | exact B7.out | exact bR B7.out _⟩
          case measure=>simp [intOf];omega
         | false =>
          have e1 : ¬ (A : Int) = (A3 : Int):=fun e=>by have:=HS1.out.1 (by omega);cases this
          have e2 : ¬ (E1 : Int) = (E2 : Int):=fun e=>by have:=HS2.out.1 (by omega);cases this
          have e3 : ((A : Int) == (A3 : Int)) = false:=by rw [beq_eq_false_iff_ne];exact e1
          have e4 : ((E1 : Int) == (E2 : Int)) = false:=by rw [beq_eq_false_iff_ne];exact e2
          go_quiet (fail)
          go_wp2_with fail
          go_roundw
          case rel=>exact ⟨t + 1,by omega,by go_num,by first | exact B7.out | exact bR B7.out _⟩
          case measure=>simp [intOf];omega
        ·have a5 : ¬ (t : Int) < (j : Int):=by omega
         go_wp2_with fail
         go_roundw
         case rel=>exact ⟨q + 1,by omega,by go_num,BT.out⟩
         case measure=>simp [intOf];omega
      ·have a6 : ¬ (q : Int) < (j : Int):=by omega
       go_wp2_with fail
       go_ret
       exact ⟨rfl,B6.out.trans (BQ.out.mono B6.out.size)⟩
  ·have q1 : ¬ (j : Int) < (n : Int):=by omega
   obtain ⟨xs0,ow0,-⟩:=ST.out.own
   obtain ⟨ra,rc,rfl⟩:=jW ow0
   obtain ⟨cs,hcs⟩ : ∃ cs,clqs l sd j = cs:=⟨_,rfl⟩
   have CL : Hid (cs.length = j):=by rw [Hid,← hcs,clqs,List.length_map,List.length_range]
   have OKC : Hid (∀ p ∈ cs,okSq p.1 p.2):=by rw [← hcs];exact xF l sd j
   have SQ : Hid (iK wr cs (.slice ra j rc)):=by
    have:=ST.out.own.at (fun k hk=>by simp [lo];omega)
    rw [hcs] at this
    have k:=CL.out
    show At wr (.sl 2 cs.length (cZ cs)) _
    rw [k]
    exact At.keep bL _ _ this
   have BW:=Lib.hid ST.out.bw
   have NC : Hid (∀ W,Below w.heap.size w W → iK W [] (.slice none 0 0) → Calls Tryz.prog 31 #[.slice none 0 0] W fun e w'=>∃ ra' rc',e = .returned (.tuple #[.slice ra' 0 rc',.int .i64 0]) ∧ Below W.heap.size W w'):=fun W hW hv=>(lQ [] (fun p hp=>by cases hp) W none 0 0 (HR.out.keep (aA hW)) (HP.out.below hW) (HO.out.keep (aA hW)) hv (by simp)).mono fun e w' ⟨ra',rc',h1,h2,h3⟩=>⟨ra',rc',h1,h3⟩
   have CC : Hid (∀ W ds a' n' c',Below w.heap.size w W → iK W ds (.slice a' n' c') → (∀ p ∈ ds,okSq p.1 p.2) → ds.length ≤ 6 → Calls Tryz.prog 31 #[.slice a' n' c'] W fun e w'=>∃ ra' rc',e = .returned (.tuple #[.slice ra' ds.length rc',.int .i64 0]) ∧ jF w' (kN ds) (.slice ra' ds.length rc') ∧ Below W.heap.size W w'):=fun W ds a' n' c' hW hv hok hl=>lQ ds hok W a' n' c' (HR.out.keep (aA hW)) (HP.out.below hW) (HO.out.keep (aA hW)) hv (by omega)
   clear ow0 hcs ST
   rcases Nat.eq_zero_or_pos j with hz | hz
   ·subst hz
    go_wp2_with (
           go_at_call 31
           refine (NC.out _ BW.out (At.sl_nil (Nat.zero_le _))).mono ?_
           rintro e w2 ⟨ra',rc',rfl,h2⟩
           have B2:=Lib.hid (BW.out.trans (h2.mono BW.out.size))
           clear h2)
    go_ret
    exact ⟨rfl,B2.out⟩
   ·have jp : ¬ (j : Int) = 0:=by omega
    have TM : (tn : Int).tmod (j : Int) = ((tn % j : Nat) : Int):=by rw [← Int.ofNat_tmod]
    obtain ⟨k,hk⟩ : ∃ k,tn % j = k:=⟨_,rfl⟩
    have KJ : k < j:=by rw [← hk];exact Nat.mod_lt _ hz
    rw [hk] at TM
    clear hk
    go_wp2_with (
           go_at_call 31
           refine (CC.out _ cs _ _ _ BW.out SQ.out OKC.out (by have:=CL.out;omega)).mono ?_
           rintro e w2 ⟨ra',rc',he2,h1,h2⟩
           rw [CL.out] at he2 h1
           subst he2
           have B2:=Lib.hid (BW.out.trans (h2.mono BW.out.size))
           have I2:=Lib.hid h1
           have SQ2:=Lib.hid (SQ.out.keep (aA h2))
           clear h1 h2)
    obtain ⟨b,off,vs,rfl,cv,gv⟩:=vF SQ2.out (by intro e;have e2:=jX cs;rw [e,CL.out] at e2;simp at e2;omega)
    have sl:=SQ2.out.len
    have CV:=Lib.hid cv
    have GV:=Lib.hid gv
    have v2 : Hid (vs.length = j * 2):=by rw [Hid,cv.1,jX,CL.out]
    have j1 : k ≤ j:=by omega
    have j2 : j ≤ rc:=sl.2.1
    have j4 : k ≤ rc:=by omega
    have j5 : ¬ rc = k:=by omega
    have j3 : rc ≤ 9223372036854775807:=le63 sl.2.2
    have JM:=Lib.hid (Nat.le_trans sl.2.1 sl.2.2)
    clear cv gv sl
    refine wp_region_held_drew (S:=fun w'=>Below w2.heap.size w2 w') (by kernel_rfl) (Below.refl _ _).drew (fun hHeld=>?_)
    refine wpAnyH_take (i:=1) (v:=?_) rfl (by kernel_rfl) (by kernel_rfl) (by kernel_rfl) (fun _ _ _ h=>h) (Or.inl ⟨by rfl, ?_⟩) (by assumption) ?_
    rotate_left
    ·(intro w0 hSw;go_simp;(try with_reducible rfl))
    try simp only [Act.put,List.getElem_toArray,List.getElem_cons_succ,List.getElem_cons_zero,List.setIfInBounds_toArray,List.set_cons_zero,List.set_cons_succ]
    refine wpAnyH_take (i:=2) (v:=?_) rfl (by kernel_rfl) (by kernel_rfl) (by kernel_rfl) (fun _ _ _ h=>h) (Or.inl ⟨by rfl, ?_⟩) (by assumption) ?_
    rotate_left
    ·(intro w0 hSw;go_simp;(try with_reducible rfl))
    try simp only [Act.put,List.getElem_toArray,List.getElem_cons_succ,List.getElem_cons_zero,List.setIfInBounds_toArray,List.set_cons_zero,List.set_cons_succ]
    refine wpAnyH_take (i:=3) (v:=?_) rfl (by kernel_rfl) (by kernel_rfl) (by kernel_rfl) (fun _ _ _ h=>h) (Or.inl ⟨by rfl, ?_⟩) (by assumption) ?_
    rotate_left
    ·(intro w0 hSw;go_simp;(try with_reducible rfl))
    try simp only [Act.put,List.getElem_toArray,List.getElem_cons_succ,List.getElem_cons_zero,List.setIfInBounds_toArray,List.set_cons_zero,List.set_cons_succ]
    refine wpAnyH_take (i:=5) (v:=?_) rfl (by kernel_rfl) (by kernel_rfl) (by kernel_rfl) (fun _ _ _ h=>h) (Or.inl ⟨by rfl, ?_⟩) (by assumption) ?_
    rotate_left
    ·(intro w0 hSw;go_simp;(try with_reducible rfl))
    try simp only [Act.put,List.getElem_toArray,List.getElem_cons_succ,List.getElem_cons_zero,List.setIfInBounds_toArray,List.set_cons_zero,List.set_cons_succ]
    refine wpAnyH_take (i:=6) (v:=?_) rfl (by kernel_rfl) (by kernel_rfl) (by kernel_rfl) (fun _ _ _ h=>h) (Or.inl ⟨by rfl, ?_⟩) (by assumption) ?_
    rotate_left
    ·(intro w0 hSw;go_simp;(try with_reducible rfl))
    try simp only [Act.put,List.getElem_toArray,List.getElem_cons_succ,List.getElem_cons_zero,List.setIfInBounds_toArray,List.set_cons_zero,List.set_cons_succ]
    refine wpAnyH_take (i:=7) (v:=?_) rfl (by kernel_rfl) (by kernel_rfl) (by kernel_rfl) (fun _ _ _ h=>h) (Or.inl ⟨by rfl, ?_⟩) (by assumption) ?_
    rotate_left
    ·(intro w0 hSw;go_simp;(try with_reducible rfl))
    try simp only [Act.put,List.getElem_toArray,List.getElem_cons_succ,List.getElem_cons_zero,List.setIfInBounds_toArray,List.set_cons_zero,List.set_cons_succ]
    refine wpAnyH_ready (rs:=[0]) (by kernel_rfl) (by simp) ?_
    refine AllReadyH.cons rfl (fun K hK=>?_) AllReadyH.nil
    go_simp
    have OW0 : (w2.alloc (Obj.cells #[] 26)).drew.ownsRow w2.heap.size 26 2 (.slice (some ⟨w2.heap.size,0,none⟩) 0 0) 0 []:=⟨rfl,.inr ⟨_,0,#[],rfl,Nat.le_refl _,heap_alloc_new w2 _,Nat.le_refl _,Nat.zero_le _,rfl,rfl⟩⟩
    have hS0 : Below w2.heap.size w2 (w2.alloc (Obj.cells #[] 26)).drew:=((Below.refl _ w2).alloc (Nat.le_refl _) _).drew
    refine hK.out _ _ hS0 (fun hHeld2=>?_)
    clear hK K hHeld hS0
    try simp only [Act.put,List.getElem_toArray,List.getElem_cons_succ,List.getElem_cons_zero,List.setIfInBounds_toArray,List.set_cons_zero,List.set_cons_succ]
    refine wpAnyH_ready (rs:=[4]) (by kernel_rfl) (by simp) ?_
    refine AllReadyH.cons rfl (fun K hK=>?_) AllReadyH.nil
    refine bT rfl _ _ 66 rfl w2.heap.size 26 i0 (.agg #[.slice none 0 0,.slice none 0 0]) 2 48 Tryz.underlying66 hi0 hz0 hs0 hb0 rfl (by decide) (.slice (some ⟨w2.heap.size,0,none⟩) 0 0) 0 [] (by rfl) OW0 ⟨b,off + k * 2,none⟩ (j - k) (rc - k) (vs.drop (k * 2)) (by rfl) (by rw [List.length_drop,v2.out];omega) (fun i u hu=>by rw [Addr.add_lit,Nat.add_assoc];rw [List.getElem?_drop] at hu;exact aA hHeld2 _ _ (GV.out _ _ hu)) (fun u hu=>qD CV.out u (List.mem_of_mem_drop hu)) (by unfold maxLen;omega) (by omega) hHeld2.size ?_
    intro v4 w4 h4 hg4 hat4
    have b4 : Below w2.heap.size w2 w4:=hHeld2.grown hg4 hHeld2.size (fun q hq=>(OW0.lt q hq).1)
    clear hat4 OW0 hg4
    refine hK.out _ _ b4 (fun hHeld3=>?_)
    clear hK K hHeld2 b4
    try simp only [Act.put,List.getElem_toArray,List.getElem_cons_succ,List.getElem_cons_zero,List.setIfInBounds_toArray,List.set_cons_zero,List.set_cons_succ]
    refine wpAnyH_ready (rs:=[8]) (by kernel_rfl) (by simp) ?_
    refine AllReadyH.cons rfl (fun K hK=>?_) AllReadyH.nil
    refine bT rfl _ _ 66 rfl w2.heap.size 26 i0 (.agg #[.slice none 0 0,.slice none 0 0]) 2 48 Tryz.underlying66 hi0 hz0 hs0 hb0 rfl (by decide) v4 (0 + (j - k)) ([] ++ vs.drop (k * 2)) (by rfl) h4 ⟨b,off,none⟩ k rc (vs.take (k * 2)) (by rfl) (by rw [List.length_take,v2.out];omega) (fun i u hu=>by rw [Addr.add_lit];rw [List.getElem?_take] at hu;split at hu;exact aA hHeld3 _ _ (GV.out _ _ hu);cases hu) (fun u hu=>qD CV.out u (List.mem_of_mem_take hu)) (by unfold maxLen;omega) (by omega) hHeld3.size ?_
    intro v5 w5 h5 hg5 hat5
    have b5 : Below w2.heap.size w2 w5:=hHeld3.grown hg5 hHeld3.size (fun q hq=>(h4.lt q hq).1)
    rw [List.nil_append,show 0 + (j - k) + k = j by omega] at h5
    obtain ⟨ta,tc,rfl,ts⟩:=yI CL.out j1 CV.out b5 h5
    have TS:=Lib.hid ts
    clear hat5 hg5 h4 h5 ts
    refine hK.out _ _ b5 (fun hHeld4=>?_)
    clear hK K hHeld3 b5
    try simp only [Act.put,List.getElem_toArray,List.getElem_cons_succ,List.getElem_cons_zero,List.setIfInBounds_toArray,List.set_cons_zero,List.set_cons_succ]
    refine wpAnyH_ready (rs:=[9]) (by kernel_rfl) (by simp) ?_
    refine AllReadyH.cons rfl (fun K hK=>?_) AllReadyH.nil
    go_simp
    go_at_call 31
    refine (CC.out _ (fN k cs) _ _ _ (B2.out.trans (hHeld4.mono B2.out.size)) TS.out (fun p hp=>OKC.out p (oW hp)) (by rw [fF (by rw [CL.out];exact j1),CL.out];exact hj6)).mono ?_
    rintro e w6 ⟨rb,rd,he6,h1,h2⟩
    rw [fF (by rw [CL.out];exact j1),CL.out] at he6 h1
    subst he6
    have B6 : Below w2.heap.size w2 w6:=hHeld4.trans (h2.mono hHeld4.size)
    have I6:=Lib.hid h1
    clear h1 h2
    go_simp
    refine hK.out _ _ B6 (fun hHeld5=>?_)
    clear hK K hHeld4 B6 TS
    try simp only [Act.put,List.getElem_toArray,List.getElem_cons_succ,List.getElem_cons_zero,List.setIfInBounds_toArray,List.set_cons_zero,List.set_cons_succ]
    refine wpAnyH_take (i:=10) (v:=?_) rfl (by kernel_rfl) (by kernel_rfl) (by kernel_rfl) (fun _ _ _ h=>h) (Or.inl ⟨by rfl, ?_⟩) (by assumption) ?_
    rotate_left
    ·(intro w0 hSw;go_simp;(try with_reducible rfl))
    try simp only [Act.put,List.getElem_toArray,List.getElem_cons_succ,List.getElem_cons_zero,List.setIfInBounds_toArray,List.set_cons_zero,List.set_cons_succ]
    refine wpAnyH_take (i:=11) (v:=?_) rfl (by kernel_rfl) (by kernel_rfl) (by kernel_rfl) (fun _ _ _ h=>h) (Or.inl ⟨by rfl, ?_⟩) (by assumption) ?_
    rotate_left
    ·(intro w0 hSw;go_simp;(try with_reducible rfl))
    try simp only [Act.put,List.getElem_toArray,List.getElem_cons_succ,List.getElem_cons_zero,List.setIfInBounds_toArray,List.set_cons_zero,List.set_cons_succ]
    refine wpAnyH_take (i:=12) (v:=?_) rfl (by kernel_rfl) (by kernel_rfl) (by kernel_rfl) (fun _ _ _ h=>h) (Or.inl ⟨by rfl, ?_⟩) (by assumption) ?_
    rotate_left
    ·(intro w0 hSw;go_simp;(try with_reducible rfl))
    try simp only [Act.put,List.getElem_toArray,List.getElem_cons_succ,List.getElem_cons_zero,List.setIfInBounds_toArray,List.set_cons_zero,List.set_cons_succ]
    refine wpAnyH_take (i:=13) (v:=?_) rfl (by kernel_rfl) (by kernel_rfl) (by kernel_rfl) (fun _ _ _ h=>h) (Or.inl ⟨by rfl, ?_⟩) (by assumption) ?_
    rotate_left
    ·(intro w0 hSw;go_simp;(try with_reducible rfl))
    try simp only [Act.put,List.getElem_toArray,List.getElem_cons_succ,List.getElem_cons_zero,List.setIfInBounds_toArray,List.set_cons_zero,List.set_cons_succ]
    refine wpAnyH_take (i:=14) (v:=?_) rfl (by kernel_rfl) (by kernel_rfl) (by kernel_rfl) (fun _ _ _ h=>h) (Or.inl ⟨by rfl, ?_⟩) (by assumption) ?_
    rotate_left
    ·(intro w0 hSw;go_simp;(try with_reducible rfl))
    try simp only [Act.put,List.getElem_toArray,List.getElem_cons_succ,List.getElem_cons_zero,List.setIfInBounds_toArray,List.set_cons_zero,List.set_cons_succ]
    refine wpAnyH_done (by kernel_rfl) ?_ _
    have B6 : Hid (Below w.heap.size w w6):=B2.out.trans (hHeld5.mono B2.out.size)
    have I7:=Lib.hid (I2.out.keep (aA hHeld5))
    have SQ6:=Lib.hid (SQ2.out.keep (aA hHeld5))
    clear hHeld5 I2 SQ2 CV GV B2 BW SQ NC CC
    go_wp2_with fail
    have jn : cs ≠ []:=by intro e;have:=CL.out;rw [e] at this;simp at this;omega
    obtain ⟨ib,io,rfl,g7⟩:=I7.out.get (by intro e;have e2:=congrArg List.length e;simp [kN,keysOf] at e2;exact jn e2)
    obtain ⟨kb,ko,rfl,g6⟩:=I6.out.get (by intro e;have e2:=congrArg List.length e;simp [kN,keysOf] at e2;have:=fF (k:=k) (l:=cs) (by rw [CL.out];exact j1);rw [e2,CL.out] at this;simp at this;omega)
    obtain ⟨sb,so,se,gs⟩:=SQ6.out.get jn
    simp only [Option.some.injEq,Addr.mk.injEq] at se
    obtain ⟨rfl,rfl,-⟩:=se
    have GA : Hid (∀ q,q < j → w6.cell? ⟨ib,io + q,none⟩ = some (.int .i64 (dW cs q : Nat))):=fun q hq=>g7 q _ (qB (by rw [CL.out];exact hq))
    have GB : Hid (∀ q,q < j → w6.cell? ⟨kb,ko + q,none⟩ = some (.int .i64 (dW (fN k cs) q : Nat))):=fun q hq=>g6 q _ (qB (by rw [fF (by rw [CL.out];exact j1),CL.out];exact hq))
    have GS:=Lib.hid gs
    clear g7 g6 gs jn I6 I7 SQ6
    go_loopw [120] (fun i wr2=>∃ q : Nat,q ≤ j ∧ i = .int .i64 q ∧ Hid (Below w6.heap.size w6 wr2)) (fun i _=>j - (intOf i).toNat)
    case atStart=>exact ⟨0,Nat.zero_le _,rfl,Below.refl _ _⟩
    case round =>
     obtain ⟨q,hq,rfl,BQ⟩:=hrel
     by_cases hlt2 : q < j
     ·obtain ⟨A,hA⟩ : ∃ A,dW cs q = A:=⟨_,rfl⟩
      have A1 : A ≤ q:=by rw [← hA];exact yT (by rw [CL.out];exact hlt2)
      have A2:=vL (cs:=cs) (i:=q) (by rw [CL.out];exact hlt2)
      rw [hA] at A2
      have c1:=aA BQ.out _ _ (GA.out q hlt2)
      rw [hA] at c1
      have c2:=aA BQ.out _ _ (GA.out A (by omega))
      rw [A2] at c2
      have HA:=Lib.hid hA
      clear hA A2
      have a0 : ¬ (A : Int) < 0:=by omega
      have a1 : ¬ (q : Int) < (A : Int):=by omega
      have a2 : (q : Int) < (j : Int):=by omega
      have a3 : A < j:=by omega
      have a4 : (A : Int) < (j : Int):=by omega
      go_upto_region 23 with fail
      go_quiet (fail)
      clear c1 c2
      go_wp2_with fail
      go_loopw [152] (fun i wr3=>∃ t : Nat,t ≤ j ∧ i = .int .i64 t ∧ Hid (Below w6.heap.size w6 wr3)) (fun i _=>j - (intOf i).toNat)
      case atStart=>exact ⟨0,Nat.zero_le _,rfl,bR BQ.out _⟩
      case round =>
       obtain ⟨t,ht2,rfl,BT⟩:=hrel
       by_cases hlt3 : t < j
       ·obtain ⟨p1,hp1⟩:=aT (l:=cs) (j:=q) (by rw [CL.out];exact hlt2)
        obtain ⟨p2,hp2⟩:=aT (l:=cs) (j:=t) (by rw [CL.out];exact hlt3)
        obtain ⟨x1,x2,x3,x4,x5,x6,cx1,cx2,fx1,fx2⟩:=GS.out q p1 hp1
        obtain ⟨y1,y2,y3,y4,y5,y6,cy1,cy2,fy1,fy2⟩:=GS.out t p2 hp2
        have ZC:=Lib.hid (And.intro cx1 (And.intro cx2 (And.intro cy1 cy2)))
        have KJL : k < cs.length:=by rw [CL.out];exact KJ
        have S1:=qO OKC.out hp1 hp2
        have S2:=vM OKC.out KJL (by rw [CL.out];exact hlt2) (by rw [CL.out];exact hlt3) hp1 hp2
        rw [HA.out] at S1
        rw [CL.out] at S2
        have SMC : Hid (∀ W,Below w6.heap.size w6 W → Calls Tryz.prog 12 #[.agg #[.slice x1 x2 x3,.slice x4 x5 x6],.agg #[.slice y1 y2 y3,.slice y4 y5 y6]] W fun e w'=>e = .returned (.tuple #[.bool (fQ p1.1 p1.2 p2.1 p2.2),.int .i64 0]) ∧ Below W.heap.size W w'):=fun W hW=>qH _ _ _ _ _ _ W (HR.out.keep (aA (B6.out.trans (hW.mono B6.out.size)))) (HP.out.below (B6.out.trans (hW.mono B6.out.size))) ⟨_,_,_,_,_,_,rfl,fx1.keep (aA hW),fx2.keep (aA hW)⟩ ⟨_,_,_,_,_,_,rfl,fy1.keep (aA hW),fy2.keep (aA hW)⟩ (OKC.out p1 (List.mem_of_getElem? hp1)) (OKC.out p2 (List.mem_of_getElem? hp2))
        obtain ⟨D,hD⟩ : ∃ D,fQ p1.1 p1.2 p2.1 p2.2 = D:=⟨_,rfl⟩
        rw [hD] at SMC S1 S2
        obtain ⟨A3,hA3⟩ : ∃ x,dW cs t = x:=⟨_,rfl⟩
        rw [hA3] at S1
        obtain ⟨i1,hi1⟩ : ∃ x,(q + j - k) % j = x:=⟨_,rfl⟩
        obtain ⟨i2,hi2⟩ : ∃ x,(t + j - k) % j = x:=⟨_,rfl⟩
        rw [hi1,hi2] at S2
        obtain ⟨E1,hE1⟩ : ∃ x,dW (fN k cs) i1 = x:=⟨_,rfl⟩
        obtain ⟨E2,hE2⟩ : ∃ x,dW (fN k cs) i2 = x:=⟨_,rfl⟩
        rw [hE1,hE2] at S2
        have l1 : i1 < j:=by rw [← hi1];exact Nat.mod_lt _ hz
        have l2 : i2 < j:=by rw [← hi2];exact Nat.mod_lt _ hz
        have g1:=GA.out q hlt2
        have g2:=GA.out t hlt3
        have g3:=GB.out i1 l1
        have g4:=GB.out i2 l2
        rw [HA.out] at g1
        rw [hA3] at g2
        rw [hE1] at g3
        rw [hE2] at g4
        have GG:=Lib.hid (And.intro g1 (And.intro g2 (And.intro g3 g4)))
        have W1 : RowKit.wrap64 ((q : Int) - (k : Int)) = (q : Int) - (k : Int):=(IntWalk.i64_left _).symm.trans (IntWalk.i64_in _ (by omega))
        have W2 : RowKit.wrap64 ((q : Int) - (k : Int) + (j : Int)) = (q : Int) - (k : Int) + (j : Int):=(IntWalk.i64_left _).symm.trans (IntWalk.i64_in _ (by omega))
        have W3 : RowKit.wrap64 ((t : Int) - (k : Int)) = (t : Int) - (k : Int):=(IntWalk.i64_left _).symm.trans (IntWalk.i64_in _ (by omega))
        have W4 : RowKit.wrap64 ((t : Int) - (k : Int) + (j : Int)) = (t : Int) - (k : Int) + (j : Int):=(IntWalk.i64_left _).symm.trans (IntWalk.i64_in _ (by omega))
        have M1 : ((q : Int) - (k : Int) + (j : Int)).tmod (j : Int) = (i1 : Int):=by rw [show (q : Int) - (k : Int) + (j : Int) = ((q + j - k : Nat) : Int) by omega,← Int.ofNat_tmod,hi1]
        have M2 : ((t : Int) - (k : Int) + (j : Int)).tmod (j : Int) = (i2 : Int):=by rw [show (t : Int) - (k : Int) + (j : Int) = ((t + j - k : Nat) : Int) by omega,← Int.ofNat_tmod,hi2]
        have a5 : (t : Int) < (j : Int):=by omega
        have HS1:=Lib.hid S1
        have HS2:=Lib.hid S2
        have HW:=Lib.hid (And.intro W1 (And.intro W2 (And.intro W3 (And.intro W4 (And.intro M1 M2)))))
        clear S1 S2 W1 W2 W3 W4 M1 M2 hp1 hp2 cx1 cx2 cy1 cy2 fx1 fx2 fy1 fy2 g1 g2 g3 g4 hA3 hE1 hE2 hi1 hi2 hD KJL
        go_upto_region 28 with fail
        refine wp_region_held_drew (S:=fun w'=>Below w6.heap.size w6 w') (by kernel_rfl) BT.out.drew (fun hHeld=>?_)
        refine wpAnyH_take (i:=0) (v:=?_) rfl (by kernel_rfl) (by kernel_rfl) (by kernel_rfl) (fun _ _ _ h=>h) (Or.inl ⟨by rfl, ?_⟩) (by assumption) ?_
        rotate_left
        ·(intro w0 hSw;go_simp;(try with_reducible rfl))
        try simp only [Act.put,List.getElem_toArray,List.getElem_cons_succ,List.getElem_cons_zero,List.setIfInBounds_toArray,List.set_cons_zero,List.set_cons_succ]
        refine wpAnyH_take (i:=1) (v:=?_) rfl (by kernel_rfl) (by kernel_rfl) (by kernel_rfl) (fun _ _ _ h=>h) (Or.inl ⟨by rfl, ?_⟩) (by assumption) ?_
        rotate_left
        ·(intro w0 hSw;go_simp;(try with_reducible rfl))
        try simp only [Act.put,List.getElem_toArray,List.getElem_cons_succ,List.getElem_cons_zero,List.setIfInBounds_toArray,List.set_cons_zero,List.set_cons_succ]
        refine wpAnyH_take (i:=2) (v:=?_) rfl (by kernel_rfl) (by kernel_rfl) (by kernel_rfl) (fun _ _ _ h=>h) (Or.inl ⟨by rfl, ?_⟩) (by assumption) ?_
        rotate_left
        ·(intro w0 hSw;go_simp;(try with_reducible rfl))
        try simp only [Act.put,List.getElem_toArray,List.getElem_cons_succ,List.getElem_cons_zero,List.setIfInBounds_toArray,List.set_cons_zero,List.set_cons_succ]
        refine wpAnyH_take (i:=3) (v:=?_) rfl (by kernel_rfl) (by kernel_rfl) (by kernel_rfl) (fun _ _ _ h=>h) (Or.inl ⟨by rfl, ?_⟩) (by assumption) ?_
        rotate_left
        ·(intro w0 hSw;obtain ⟨z1,z2,-,-⟩:=ZC.out;have z3:=aA hSw _ _ z1;have z4:=aA hSw _ _ z2;go_simp;(try with_reducible rfl))
        try simp only [Act.put,List.getElem_toArray,List.getElem_cons_succ,List.getElem_cons_zero,List.setIfInBounds_toArray,List.set_cons_zero,List.set_cons_succ]
        refine wpAnyH_take (i:=4) (v:=?_) rfl (by kernel_rfl) (by kernel_rfl) (by kernel_rfl) (fun _ _ _ h=>h) (Or.inl ⟨by rfl, ?_⟩) (by assumption) ?_
        rotate_left
        ·(intro w0 hSw;go_simp;(try with_reducible rfl))
        try simp only [Act.put,List.getElem_toArray,List.getElem_cons_succ,List.getElem_cons_zero,List.setIfInBounds_toArray,List.set_cons_zero,List.set_cons_succ]
        refine wpAnyH_take (i:=5) (v:=?_) rfl (by kernel_rfl) (by kernel_rfl) (by kernel_rfl) (fun _ _ _ h=>h) (Or.inl ⟨by rfl, ?_⟩) (by assumption) ?_
        rotate_left
        ·(intro w0 hSw;go_simp;(try with_reducible rfl))
        try simp only [Act.put,List.getElem_toArray,List.getElem_cons_succ,List.getElem_cons_zero,List.setIfInBounds_toArray,List.set_cons_zero,List.set_cons_succ]
        refine wpAnyH_take (i:=6) (v:=?_) rfl (by kernel_rfl) (by kernel_rfl) (by kernel_rfl) (fun _ _ _ h=>h) (Or.inl ⟨by rfl, ?_⟩) (by assumption) ?_
        rotate_left
        ·(intro w0 hSw;go_simp;(try with_reducible rfl))
        try simp only [Act.put,List.getElem_toArray,List.getElem_cons_succ,List.getElem_cons_zero,List.setIfInBounds_toArray,List.set_cons_zero,List.set_cons_succ]
        refine wpAnyH_take (i:=7) (v:=?_) rfl (by kernel_rfl) (by kernel_rfl) (by kernel_rfl) (fun _ _ _ h=>h) (Or.inl ⟨by rfl, ?_⟩) (by assumption) ?_
        rotate_left
        ·(intro w0 hSw;obtain ⟨-,-,z1,z2⟩:=ZC.out;have z3:=aA hSw _ _ z1;have z4:=aA hSw _ _ z2;go_simp;(try with_reducible rfl))
        try simp only [Act.put,List.getElem_toArray,List.getElem_cons_succ,List.getElem_cons_zero,List.setIfInBounds_toArray,List.set_cons_zero,List.set_cons_succ]
        refine wpAnyH_ready (rs:=[8]) (by kernel_rfl) (by simp) ?_
        refine AllReadyH.cons rfl (fun K hK=>?_) AllReadyH.nil
        go_simp
        go_at_call 12
        refine (SMC.out _ hHeld).mono ?_
        rintro e w7 ⟨rfl,h7⟩
        go_simp
        refine hK.out _ _ (hHeld.trans (h7.mono hHeld.size)) (fun hHeld2=>?_)
        clear hK K hHeld h7
        try simp only [Act.put,List.getElem_toArray,List.getElem_cons_succ,List.getElem_cons_zero,List.setIfInBounds_toArray,List.set_cons_zero,List.set_cons_succ]
        refine wpAnyH_take (i:=9) (v:=?_) rfl (by kernel_rfl) (by kernel_rfl) (by kernel_rfl) (fun _ _ _ h=>h) (Or.inl ⟨by rfl, ?_⟩) (by assumption) ?_
        rotate_left
        ·(intro w0 hSw;go_simp;(try with_reducible rfl))
        try simp only [Act.put,List.getElem_toArray,List.getElem_cons_succ,List.getElem_cons_zero,List.setIfInBounds_toArray,List.set_cons_zero,List.set_cons_succ]
        refine wpAnyH_take (i:=10) (v:=?_) rfl (by kernel_rfl) (by kernel_rfl) (by kernel_rfl) (fun _ _ _ h=>h) (Or.inl ⟨by rfl, ?_⟩) (by assumption) ?_
        rotate_left
        ·(intro w0 hSw;go_simp;(try with_reducible rfl))
        try simp only [Act.put,List.getElem_toArray,List.getElem_cons_succ,List.getElem_cons_zero,List.setIfInBounds_toArray,List.set_cons_zero,List.set_cons_succ]
        refine wpAnyH_take (i:=11) (v:=?_) rfl (by kernel_rfl) (by kernel_rfl) (by kernel_rfl) (fun _ _ _ h=>h) (Or.inl ⟨by rfl, ?_⟩) (by assumption) ?_
        rotate_left
        ·(intro w0 hSw;go_simp;(try with_reducible rfl))
        try simp only [Act.put,List.getElem_toArray,List.getElem_cons_succ,List.getElem_cons_zero,List.setIfInBounds_toArray,List.set_cons_zero,List.set_cons_succ]
        refine wpAnyH_take (i:=12) (v:=?_) rfl (by kernel_rfl) (by kernel_rfl) (by kernel_rfl) (fun _ _ _ h=>h) (Or.inl ⟨by rfl, ?_⟩) (by assumption) ?_
        rotate_left
        ·(intro w0 hSw;go_simp;(try with_reducible rfl))
        try simp only [Act.put,List.getElem_toArray,List.getElem_cons_succ,List.getElem_cons_zero,List.setIfInBounds_toArray,List.set_cons_zero,List.set_cons_succ]
        refine wpAnyH_take (i:=13) (v:=?_) rfl (by kernel_rfl) (by kernel_rfl) (by kernel_rfl) (fun _ _ _ h=>h) (Or.inl ⟨by rfl, ?_⟩) (by assumption) ?_
        rotate_left
        ·(intro w0 hSw;go_simp;(try with_reducible rfl))
        try simp only [Act.put,List.getElem_toArray,List.getElem_cons_succ,List.getElem_cons_zero,List.setIfInBounds_toArray,List.set_cons_zero,List.set_cons_succ]
        refine wpAnyH_done (by kernel_rfl) ?_ _
        have B7:=Lib.hid hHeld2
        clear hHeld2 SMC ZC
        go_upto_region 29 with fail
        obtain ⟨k1,k2,k3,k4⟩:=GG.out
        have m1:=aA B7.out _ _ k1
        have m2:=aA B7.out _ _ k2
        have m3:=aA B7.out _ _ k3
        have m4:=aA B7.out _ _ k4
        obtain ⟨W1,W2,W3,W4,M1,M2⟩:=HW.out
        have n1 : (i1 : Int) < (j : Int):=by omega
        have n2 : (i2 : Int) < (j : Int):=by omega
        clear k1 k2 k3 k4
        cases D with
        | true =>
         have e1 : A = A3:=HS1.out.2 rfl
         have e2 : E1 = E2:=HS2.out.2 rfl
         subst e1
         subst e2
         go_quiet (fail)
         go_wp2_with fail
         go_roundw
         case rel=>exact ⟨t + 1,by omega,by go_num,by first | exact B7.out | exact bR B7.out _⟩
         case measure=>simp [intOf];omega
        | false =>
         have e1 : ¬ (A : Int) = (A3 : Int):=fun e=>by have:=HS1.out.1 (by omega);cases this
         have e2 : ¬ (E1 : Int) = (E2 : Int):=fun e=>by have:=HS2.out.1 (by omega);cases this
         have e3 : ((A : Int) == (A3 : Int)) = false:=by rw [beq_eq_false_iff_ne];exact e1
         have e4 : ((E1 : Int) == (E2 : Int)) = false:=by rw [beq_eq_false_iff_ne];exact e2
         go_quiet (fail)
         go_wp2_with fail
         go_roundw
         case rel=>exact ⟨t + 1,by omega,by go_num,by first | exact B7.out | exact bR B7.out _⟩
         case measure=>simp [intOf];omega
       ·have a5 : ¬ (t : Int) < (j : Int):=by omega
        go_wp2_with fail
        go_roundw
        case rel=>exact ⟨q + 1,by omega,by go_num,BT.out⟩
        case measure=>simp [intOf];omega
     ·have a6 : ¬ (q : Int) < (j : Int):=by omega
      go_wp2_with fail
      go_ret
      exact ⟨rfl,B6.out.trans (BQ.out.mono B6.out.size)⟩
end Go.Proofs.YtppfalbnhnpbnaaGreatDoor
