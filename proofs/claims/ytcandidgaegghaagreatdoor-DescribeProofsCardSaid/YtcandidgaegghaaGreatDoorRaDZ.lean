/- describe.readLine at any text: lines that are no assumption, up to the premises. Conditions: the text fits; the program's tables lie as laid. -/
import Derived.Test.YtcandidgaegghaaGreatDoorCpZ
import Derived.Test.YtcandidgaegghaaGreatDoorRaAZ
import Derived.Test.YtcandidgaegghaaGreatDoorStFZ
import Derived.Test.YtcandidgaegghaaGreatDoorRefDZ
set_option maxRecDepth 10000
set_option linter.unusedSimpArgs false
set_option linter.unusedVariables false
namespace Go.Proofs.YtcandidgaegghaaGreatDoor
open Go Go.RowKit Ly
attribute [local go_sem] Oper.semAt_some
structure tS (T a b : Bs) (f : Fm) (fi fcd : Int) : Prop where
 len : T.length ≤ 1000000000
 cut : Lib.cut T cs = (a,b,true)
 pf : ∀ W,Calls Tryz.prog 39 #[str a,str eC] W fun e w'=>e = .returned (.tuple #[str a,.bool false]) ∧ w' = W
 rd : IQ a f fi fcd
 bl : b.length ≤ 1000000000
 got : cO T = if fcd = 0 then (if b = nS then some (.mk hole f 0 [] [])
   else if Lib.hasPrefix b byT = true then
    match Lib.cut (Lib.trimPrefix b byT) fJ with
    | (r,J,u)=>if u = true then (match bZ gE (Lib.split J cs) with
      | some ms=>some (.mk r f 0 [] ms)
      | none=>none)
     else some (.mk r f 0 [] [])
   else none) else none
theorem else_at {T a b : Bs} (hT : T.length ≤ 1000000000) (hc : Lib.cut T cs = (a,b,true)) (hp : Lib.hasPrefix a eC = false) : ∃ f fi fcd,(fcd = 0 ∨ fcd = 2 ∨ fcd = 3 ∨ fcd = 410) ∧ tS T a b f fi fcd:=by
 have ls:=mN hc
 obtain ⟨f,fi,fcd,hg,hcd,hrd⟩:=GA a (by omega)
 refine ⟨f,fi,fcd,hcd,hT,hc,fun W=>sD eC a hp W,hrd,by omega, ?_⟩
 unfold cO
 rw [hc]
 simp only [if_true,hp,hg,Bool.false_eq_true,if_false]
 try rfl
set_option maxHeartbeats 4000000 in
theorem line_bad (T a b : Bs) (f : Fm) (fi fcd : Int) (E : tS T a b f fi fcd) (hcd : fcd = 2 ∨ fcd = 3 ∨ fcd = 410) (w : World) (ht : Tabs w) : Calls Tryz.prog 120 #[str T] w (eH T w):=by
 have HT:=Hd ht
 have EE:=Hd E
 have EQ : Hid (cO T = none):=by show _ = _;rw [E.got,if_neg (by omega)]
 clear ht E
 refine (callsIn_wide (n:=100)).1 ?_
 refine callsIn_of_wp_marks Tryz.func120 rfl trivial (gM ?_) rfl
 simp only [Tryz.ntmps120,List.size_toArray,List.length_cons,List.length_nil,Nat.reduceAdd,Nat.reduceSub,Array.replicate_succ,Array.replicate_zero,List.push_toArray,List.append_toArray,List.nil_append,List.cons_append]
 have Z:=Hd (iL w)
 rcases hcd with rfl | rfl | rfl
 all_goals
  gi_wp2_with (first
   | (refine ⟨trivial, ?_⟩;gi_at_call 32;refine (callsIn_wide.2 (oB T cs _ _ _ EE.out.len EE.out.cut _ (HT.out.m.keep (aA Z.out.bw)))).mono ?_;rintro e w7 ⟨rfl,b7⟩;have Z7:=Hd (Z.out.below b7);clear b7)
   | (refine ⟨trivial, ?_⟩;gi_at_call 39;refine (callsIn_wide.2 (EE.out.pf _)).mono ?_;rintro e w8 ⟨rfl,rfl⟩)
   | (refine ⟨trivial, ?_⟩;gi_at_call 43;refine (callsIn_wide.2 (EE.out.rd _ (HT.out.m.keep (aA Z7.out.bw)) (HT.out.r.keep (aA Z7.out.bw)) (HT.out.n.keep (aA Z7.out.bw)))).mono ?_;rintro e w10 ⟨fa,fn,fc,fb,fm,fd,rfl,-,-,b10⟩;have Z10:=Hd (Z7.out.below b10);clear b10;obtain ⟨f0,f1,f2,f3,f4,f5,f6,f7⟩:=fO Z10.out.c2;obtain ⟨x0,x1,x2,x3,x4,x5,x6,x7⟩:=eV Z10.out.c2;obtain ⟨y3,r3⟩:=row9 Z10.out.c3;obtain ⟨y4,r4⟩:=row9 Z10.out.c4;have z3:=(Array.getElem?_eq_some_iff.1 Z10.out.c4).1;have z2 : w.heap.size + 1 < w10.heap.size:=(by omega);have z1 : w.heap.size < w10.heap.size:=(by omega)))
  obtain ⟨e0,e1,e2,e3⟩:=oY (T:=T) (r:=[]) (o:=0) (s':=[]) (fa:=none) (fb:=none) (sa:=none) (qa:=none) (fn:=0) (fc:=0) (fm:=0) (fd:=0) (sn:=0) (sc:=0) (qn:=0) (qc:=0) (lb:=0) (n:=0) Z10.out EQ.out rfl ((Below.refl _ _).alloc (Nat.le_refl _) (.cells #[.int .u8 f.op,str f.name,.slice fa fn fc,.slice fb fm fd] 25))
  exact ⟨_,mI _ _ _ _ _ _ _ _ _ _ _ _ _ _ _ rfl rfl rfl e0 e1 e2,e3⟩
set_option maxHeartbeats 4000000 in
theorem line_holeB (T a : Bs) (f : Fm) (fi : Int) (E : tS T a nS f fi 0) (w : World) (ht : Tabs w) : Calls Tryz.prog 120 #[str T] w (eH T w):=by
 have HT:=Hd ht
 have EE:=Hd E
 have CU : Hid (Lib.cut T cs = (a,[115,116,105,108,108,32,116,111,32,115,104,111,119],true)):=E.cut
 have EQ : Hid (cO T = some (.mk hole f 0 [] [])):=by show _ = _;rw [E.got,if_pos rfl,if_pos rfl]
 clear ht E
 refine (callsIn_wide (n:=100)).1 ?_
 refine callsIn_of_wp_marks Tryz.func120 rfl trivial (gM ?_) rfl
 simp only [Tryz.ntmps120,List.size_toArray,List.length_cons,List.length_nil,Nat.reduceAdd,Nat.reduceSub,Array.replicate_succ,Array.replicate_zero,List.push_toArray,List.append_toArray,List.nil_append,List.cons_append]
 have Z:=Hd (iL w)
 gi_wp2_with (first
  | (refine ⟨trivial, ?_⟩;gi_at_call 32;refine (callsIn_wide.2 (oB T cs _ _ _ EE.out.len CU.out _ (HT.out.m.keep (aA Z.out.bw)))).mono ?_;rintro e w7 ⟨rfl,b7⟩;have Z7:=Hd (Z.out.below b7);clear b7)
  | (refine ⟨trivial, ?_⟩;gi_at_call 39;refine (callsIn_wide.2 (EE.out.pf _)).mono ?_;rintro e w8 ⟨rfl,rfl⟩)
  | (refine ⟨trivial, ?_⟩;gi_at_call 43;refine (callsIn_wide.2 (EE.out.rd _ (HT.out.m.keep (aA Z7.out.bw)) (HT.out.r.keep (aA Z7.out.bw)) (HT.out.n.keep (aA Z7.out.bw)))).mono ?_;rintro e w10 ⟨fa,fn,fc,fb,fm,fd,rfl,h1,h2,b10⟩;have Z10:=Hd (Z7.out.below b10);have H1:=Hd h1;have H2:=Hd h2;clear h1 h2 b10;obtain ⟨f0,f1,f2,f3,f4,f5,f6,f7⟩:=fO Z10.out.c2;obtain ⟨x0,x1,x2,x3,x4,x5,x6,x7⟩:=eV Z10.out.c2;obtain ⟨y3,r3⟩:=row9 Z10.out.c3;obtain ⟨y4,r4⟩:=row9 Z10.out.c4;have z3:=(Array.getElem?_eq_some_iff.1 Z10.out.c4).1;have z2 : w.heap.size + 1 < w10.heap.size:=(by omega);have z1 : w.heap.size < w10.heap.size:=(by omega)))
 obtain ⟨e0,e1,e2,e3,e4⟩:=kC (p:=lo w8) (n:=.int .i64 0) (t:=.bool true) (a:=str hole) (b:=.int .u8 f.op) (c:=str f.name) (d:=.slice fa fn fc) (e:=.slice fb fm fd) (f:=.int .i64 0) (x:=.slice none 0 0) (y:=.slice none 0 0) Z10.out (fun k hk=>by have:=(Array.getElem?_eq_some_iff.1 Z7.out.c4).1;simp [lo];omega) rfl ((Below.refl _ _).alloc (Nat.le_refl _) (.cells #[.int .u8 f.op,str f.name,.slice fa fn fc,.slice fb fm fd] 25))
 exact ⟨_,mI _ _ _ _ _ _ _ _ _ _ _ _ _ _ _ rfl rfl rfl e0 e1 e2,eH.yes (q:=.mk hole f 0 [] []) EQ.out e3 rfl (H1.out.keep e4) (H2.out.keep e4) AtB.nil⟩
set_option maxHeartbeats 4000000 in
theorem line_noby (T a b : Bs) (f : Fm) (fi : Int) (E : tS T a b f fi 0) (hs : b ≠ nS) (hb : Lib.hasPrefix b byT = false) (w : World) (ht : Tabs w) : Calls Tryz.prog 120 #[str T] w (eH T w):=by
 have HT:=Hd ht
 have EE:=Hd E
 have NX : (b == ([115,116,105,108,108,32,116,111,32,115,104,111,119] : Bs)) = false:=beq_eq_false_iff_ne.2 hs
 have PB : Hid (∀ W,Calls Tryz.prog 39 #[str b,str [98,121,32]] W fun e w'=>e = .returned (.tuple #[str b,.bool false]) ∧ w' = W):=fun W=>sD byT b hb W
 have EQ : Hid (cO T = none):=by show _ = _;rw [E.got,if_pos rfl,if_neg hs,hb];rfl
 clear ht E hs hb
 refine (callsIn_wide (n:=100)).1 ?_
 refine callsIn_of_wp_marks Tryz.func120 rfl trivial (gM ?_) rfl
 simp only [Tryz.ntmps120,List.size_toArray,List.length_cons,List.length_nil,Nat.reduceAdd,Nat.reduceSub,Array.replicate_succ,Array.replicate_zero,List.push_toArray,List.append_toArray,List.nil_append,List.cons_append]
 have Z:=Hd (iL w)
 gi_wp2_with (first
  | (have Z10':=Z10.out;clear Z10';refine ⟨trivial, ?_⟩;gi_at_call 39;refine (callsIn_wide.2 (PB.out _)).mono ?_;rintro e w11 ⟨rfl,rfl⟩)
  | (refine ⟨trivial, ?_⟩;gi_at_call 32;refine (callsIn_wide.2 (oB T cs _ _ _ EE.out.len EE.out.cut _ (HT.out.m.keep (aA Z.out.bw)))).mono ?_;rintro e w7 ⟨rfl,b7⟩;have Z7:=Hd (Z.out.below b7);clear b7)
  | (refine ⟨trivial, ?_⟩;gi_at_call 39;refine (callsIn_wide.2 (EE.out.pf _)).mono ?_;rintro e w8 ⟨rfl,rfl⟩)
  | (refine ⟨trivial, ?_⟩;gi_at_call 43;refine (callsIn_wide.2 (EE.out.rd _ (HT.out.m.keep (aA Z7.out.bw)) (HT.out.r.keep (aA Z7.out.bw)) (HT.out.n.keep (aA Z7.out.bw)))).mono ?_;rintro e w10 ⟨fa,fn,fc,fb,fm,fd,rfl,-,-,b10⟩;have Z10:=Hd (Z7.out.below b10);clear b10;obtain ⟨f0,f1,f2,f3,f4,f5,f6,f7⟩:=fO Z10.out.c2;obtain ⟨x0,x1,x2,x3,x4,x5,x6,x7⟩:=eV Z10.out.c2;obtain ⟨y3,r3⟩:=row9 Z10.out.c3;obtain ⟨y4,r4⟩:=row9 Z10.out.c4;have z3:=(Array.getElem?_eq_some_iff.1 Z10.out.c4).1;have z2 : w.heap.size + 1 < w10.heap.size:=(by omega);have z1 : w.heap.size < w10.heap.size:=(by omega)))
 obtain ⟨e0,e1,e2,e3⟩:=oY (T:=T) (r:=[]) (o:=0) (s':=[]) (fa:=none) (fb:=none) (sa:=none) (qa:=none) (fn:=0) (fc:=0) (fm:=0) (fd:=0) (sn:=0) (sc:=0) (qn:=0) (qc:=0) (lb:=0) (n:=0) Z10.out EQ.out rfl ((Below.refl _ _).alloc (Nat.le_refl _) (.cells #[.int .u8 f.op,str f.name,.slice fa fn fc,.slice fb fm fd] 25))
 exact ⟨_,mI _ _ _ _ _ _ _ _ _ _ _ _ _ _ _ rfl rfl rfl e0 e1 e2,e3⟩
set_option maxHeartbeats 4000000 in
theorem line_bare (T a b Y r J : Bs) (f : Fm) (fi : Int) (E : tS T a b f fi 0) (hs : b ≠ nS) (hb : Lib.hasPrefix b byT = true) (hy : Lib.trimPrefix b byT = Y) (hc : Lib.cut Y fJ = (r,J,false)) (w : World) (ht : Tabs w) : Calls Tryz.prog 120 #[str T] w (eH T w):=by
 have HT:=Hd ht
 have EE:=Hd E
 have NX : (b == ([115,116,105,108,108,32,116,111,32,115,104,111,119] : Bs)) = false:=beq_eq_false_iff_ne.2 hs
 have PB : Hid (∀ W,Calls Tryz.prog 39 #[str b,str [98,121,32]] W fun e w'=>e = .returned (.tuple #[str Y,.bool true]) ∧ w' = W):=fun W=>by
  have:=jT byT b W
  rw [hb,hy] at this;exact this
 have EQ : Hid (cO T = some (.mk r f 0 [] [])):=by show _ = _;rw [E.got,if_pos rfl,if_neg hs,if_pos hb,hy,hc];rfl
 have YL : Hid (Y.length ≤ 1000000000):=by show _ ≤ _;rw [← hy];have:=pP b byT;have:=E.bl;omega
 have CF:=Hd hc
 clear ht E hs hb hy hc
 refine (callsIn_wide (n:=100)).1 ?_
 refine callsIn_of_wp_marks Tryz.func120 rfl trivial (gM ?_) rfl
 simp only [Tryz.ntmps120,List.size_toArray,List.length_cons,List.length_nil,Nat.reduceAdd,Nat.reduceSub,Array.replicate_succ,Array.replicate_zero,List.push_toArray,List.append_toArray,List.nil_append,List.cons_append]
 have Z:=Hd (iL w)
 gi_wp2_with (first
  | (have Z10':=Z10.out;clear Z10';first
    | (refine ⟨trivial, ?_⟩;gi_at_call 39;refine (callsIn_wide.2 (PB.out _)).mono ?_;rintro e w11 ⟨rfl,rfl⟩)
    | (refine ⟨trivial, ?_⟩;gi_at_call 32;refine (callsIn_wide.2 (oB Y fJ _ _ _ YL.out CF.out _ ((HT.out.m.keep (aA Z10.out.bw)).keep (bH _ _)))).mono ?_;rintro e w12 ⟨rfl,b12⟩;have Z12:=Hd ((Z10.out.below ((Below.refl _ _).alloc (Nat.le_refl _) (.cells #[.int .u8 f.op,str f.name,.slice fa fn fc,.slice fb fm fd] 25))).below b12);have zr:=kc b12 (heap_alloc_new w10 (.cells #[.int .u8 f.op,str f.name,.slice fa fn fc,.slice fb fm fd] 25));have B12:=Hd (aB ((Below.refl _ _).alloc (Nat.le_refl _) (.cells #[.int .u8 f.op,str f.name,.slice fa fn fc,.slice fb fm fd] 25)) b12);obtain ⟨p0,p1,p2,p3,-,-,-,-⟩:=row25' zr;clear zr b12;obtain ⟨f0,f1,f2,f3,f4,f5,f6,f7⟩:=fO Z12.out.c2;obtain ⟨x0,x1,x2,x3,x4,x5,x6,x7⟩:=eV Z12.out.c2;obtain ⟨y3,r3⟩:=row9 Z12.out.c3;obtain ⟨y4,r4⟩:=row9 Z12.out.c4;have z3:=(Array.getElem?_eq_some_iff.1 Z12.out.c4).1;have z2 : w.heap.size + 1 < w12.heap.size:=(by omega);have z1 : w.heap.size < w12.heap.size:=(by omega)))
  | (refine ⟨trivial, ?_⟩;gi_at_call 32;refine (callsIn_wide.2 (oB T cs _ _ _ EE.out.len EE.out.cut _ (HT.out.m.keep (aA Z.out.bw)))).mono ?_;rintro e w7 ⟨rfl,b7⟩;have Z7:=Hd (Z.out.below b7);clear b7)
  | (refine ⟨trivial, ?_⟩;gi_at_call 39;refine (callsIn_wide.2 (EE.out.pf _)).mono ?_;rintro e w8 ⟨rfl,rfl⟩)
  | (refine ⟨trivial, ?_⟩;gi_at_call 43;refine (callsIn_wide.2 (EE.out.rd _ (HT.out.m.keep (aA Z7.out.bw)) (HT.out.r.keep (aA Z7.out.bw)) (HT.out.n.keep (aA Z7.out.bw)))).mono ?_;rintro e w10 ⟨fa,fn,fc,fb,fm,fd,rfl,h1,h2,b10⟩;have Z10:=Hd (Z7.out.below b10);have H1:=Hd h1;have H2:=Hd h2;clear h1 h2 b10))
 have K1 : bY (hide (lo w8) w10) (hide (lo w8) w12):=aS fun k h1 h2=>⟨h2,B12.out.block k h1⟩
 obtain ⟨e0,e1,e2,e3,e4⟩:=kC (p:=lo w8) (n:=.int .i64 0) (t:=.bool true) (a:=str r) (b:=.int .u8 f.op) (c:=str f.name) (d:=.slice fa fn fc) (e:=.slice fb fm fd) (f:=.int .i64 0) (x:=.slice none 0 0) (y:=.slice none 0 0) Z12.out (fun k hk=>by have:=(Array.getElem?_eq_some_iff.1 Z7.out.c4).1;simp [lo];omega) rfl ((Below.refl _ _).alloc (Nat.le_refl _) (.cells #[str r,.int .u8 f.op,str f.name,.slice fa fn fc,.slice fb fm fd,.int .i64 0,.slice none 0 0,.slice none 0 0] 53))
 exact ⟨_,mI _ _ _ _ _ _ _ _ _ _ _ _ _ _ _ rfl rfl rfl e0 e1 e2,eH.yes (q:=.mk r f 0 [] []) EQ.out e3 rfl ((H1.out.keep K1).keep e4) ((H2.out.keep K1).keep e4) AtB.nil⟩
open Go Go.RowKit Ly
theorem joinBy_cons (sep x : Bs) {l : List Bs} (h : l ≠ []) : aT sep (x :: l) = x ++ sep ++ aT sep l:=by
 cases l with
 | nil=>exact absurd rfl h
 | cons y r=>rfl
theorem splitK_ne (sep : Bs) : ∀ (k : Nat) (s : Bs),Lib.splitK sep 0 k s ≠ []
 | 0,s=>by simp [Lib.splitK]
 | k + 1,s=>by unfold Lib.splitK;split <;> simp
theorem at_index {s sep : Bs} {i : Nat} (h : Lib.index s sep = i) : s.take i ++ sep ++ s.drop (i + sep.length) = s:=by
 rcases Lib.index_spec s sep with ⟨h1,_⟩ | ⟨j,h1,h2,h3,_⟩
 ·rw [h] at h1;omega
 ·have hj : i = j:=by omega
  subst hj
  unfold Lib.occAt at h3
  rw [List.isPrefixOf_iff_prefix] at h3
  obtain ⟨t,ht⟩:=h3
  have e : s = s.take i ++ (sep ++ t):=by rw [ht,List.take_append_drop]
  have e2 : s.drop (i + sep.length) = t:=by rw [← List.drop_drop,← ht];simp
  rw [e2,List.append_assoc];exact e.symm
theorem vB (sep : Bs) : ∀ (k : Nat) (s : Bs),aT sep (Lib.splitK sep 0 k s) = s
 | 0,s=>rfl
 | k + 1,s=>by
  unfold Lib.splitK
  split
  ·rfl
  ·rename_i hi
   have hn : Lib.index s sep ≠ -1:=by simpa using hi
   have h0 : 0 ≤ Lib.index s sep:=by have:=Lib.index_ge s sep;omega
   obtain ⟨i,e⟩ : ∃ i : Nat,Lib.index s sep = i:=⟨(Lib.index s sep).toNat,by omega⟩
   rw [joinBy_cons _ _ (splitK_ne _ _ _),vB sep k,e]
   simp only [Int.toNat_natCast,Nat.add_zero]
   exact at_index e
theorem join_split_by (s sep : Bs) : aT sep (Lib.split s sep) = s:=vB sep _ s
open Go Go.RowKit Ly
theorem FM {p : Nat → Bool} {base size n : Nat} {wx w1 : World} {e ty : TypeId} {ds es : List D} {v : Value} {ys : List Value} (H : OwnB p base wx e size n ds v) (hp : ∀ k,base ≤ k → p k = false) (b1 : Below wx.heap.size wx w1)
  (he : aX (hide (fun k=>p k || decide (v.ownBlock = some k)) w1) es ys) :
  ∃ xs,(w1.alloc (.cells ys.toArray ty)).ownsRow base e size v n xs ∧ ∀ v' w5,w5.ownsRow base e size v' (n + 1) (xs ++ ys) → (w1.alloc (.cells ys.toArray ty)).grownBy w5 v.ownBlock →
   (v'.ownBlock = v.ownBlock ∨ v'.ownBlock = some (w1.alloc (.cells ys.toArray ty)).heap.size) → OwnB p base w5 e size (n + 1) (ds ++ es) v':=by
 have B1 : Below wx.heap.size wx (w1.alloc (.cells ys.toArray ty)):=aB b1 bnew
 obtain ⟨xs,ho,hc⟩:=H.moved (w':=w1.alloc (.cells ys.toArray ty)) hp (fun k h1 _=>B1.block k h1)
 exact ⟨xs,ho,fun v' w5 h5 hg hat=>OwnB.appended hc (he.keep (aS fun k h1 h2=>⟨h2,((Below.refl w1.heap.size w1).alloc (Nat.le_refl _) _).block k h1⟩)) h5 hg hat⟩
theorem OwnB.turned {p : Nat → Bool} {B : Nat} {A W : World} {e : TypeId} {size n : Nat} {ds : List D} {v : Value} (h : OwnB p B A e size n ds v) (hp : ∀ g,v.ownBlock = some g → p g = false)
  (k : ∀ i o,p i = false → A.heap[i]? = some o → o.isCells = true → W.heap[i]? = some o) : OwnB p B W e size n ds v:=by
 obtain ⟨xs,ho,hc⟩:=h
 refine ⟨xs,⟨ho.1, ?_⟩,hc.keep fun b cs t f hu=>?_⟩
 ·rcases ho.2 with h1 | ⟨g,cap,cur,rfl,hb,hg,h1,h2,h3,h4⟩
  ·exact .inl h1
  ·exact .inr ⟨g,cap,cur,rfl,hb,k g _ (hp g rfl) hg rfl,h1,h2,h3,h4⟩
 ·obtain ⟨h1,h2⟩:=lG hu
  rw [lH _ W b h1]
  exact k b _ (Bool.or_eq_false_iff.1 h1).1 h2 rfl
def rU {α : Type} (L : List α) (va : Option Addr) (vn vc : Nat) : Prop:=L = [] → va = none ∧ vn = 0 ∧ vc = 0
theorem rU.of {α : Type} {L : List α} {x : α} {va : Option Addr} {vn vc : Nat} : rU (L ++ [x]) va vn vc:=fun h=>by simp at h
theorem LJ.marksB {A W : World} {gl n : Nat} {L : List Int} {la : Option Addr} {ln lc : Nat} (h : LJ A gl L la ln lc W) (h0 : rU L la ln lc) (hn : n ≤ A.heap.size + 3) : AtB (hide (fun k=>decide (k < n)) W) (eY L) (.slice la ln lc):=by
 have lt:=h.own.lt
 have O : OwnB (fun k=>decide (k < n)) (A.heap.size + 3) W 3 1 L.length (L.map intD) (.slice la ln lc):=by
  refine ⟨_,h.own,by simp,fun j d hd=>?_⟩
  rw [List.getElem?_map] at hd
  obtain ⟨z,hz,rfl⟩:=Option.map_eq_some_iff.1 hd
  exact ⟨.int .i64 z,by rw [List.getElem?_map,hz];rfl,rfl⟩
 refine O.at (fun k hk=>by simp;omega) (fun hh=>?_) (fun _ hh=>?_)
 ·cases L with
  | nil=>simp at hh
  | cons a l=>rfl
 ·obtain ⟨rfl,rfl,rfl⟩:=h0 (List.eq_nil_of_length_eq_zero hh)
  rfl
structure LIB (A : World) (g : Nat) (x0 x1 x2 x3 x4 x5 x6 : Value) (L : List (List Int)) (va : Option Addr) (vn vc : Nat) (W : World) : Prop where
 os : W.os = A.os
 tape : W.tape = A.tape
 output : W.output = A.output
 sz : A.heap.size + 3 ≤ W.heap.size
 old : ∀ i,i < A.heap.size → i ≠ g → W.heap[i]? = A.heap[i]?
 cell : W.heap[g]? = some (.cells #[x0,x1,x2,x3,x4,x5,x6,.slice va vn vc] 53 (0,0))
 own : OwnB (fun k=>decide (k < A.heap.size + 3)) (A.heap.size + 3) W 29 1 L.length (L.map eY) (.slice va vn vc)
section
variable {A X W : World} {g : Nat} {x0 x1 x2 x3 x4 x5 x6 : Value} {L : List (List Int)} {va : Option Addr} {vn vc : Nat}
theorem LIB.turned (hg : g < A.heap.size) (h : LIB A g x0 x1 x2 x3 x4 x5 x6 L va vn vc X) (hs : X.heap.size ≤ W.heap.size) (ho : W.os = X.os) (ht : W.tape = X.tape) (hu : W.output = X.output)
  (k1 : ∀ i,i < A.heap.size → W.heap[i]? = X.heap[i]?) (k2 : ∀ i o,A.heap.size + 3 ≤ i → X.heap[i]? = some o → o.isCells = true → W.heap[i]? = some o) : LIB A g x0 x1 x2 x3 x4 x5 x6 L va vn vc W :=
 ⟨ho.trans h.os,ht.trans h.tape,hu.trans h.output,Nat.le_trans h.sz hs,fun i hi hn=>(k1 i hi).trans (h.old i hi hn),(k1 g hg).trans h.cell,h.own.turned (fun k hk=>by have:=(pH h.own.w k hk).1;simp;omega) (fun i o hi ho hc=>k2 i o (by simpa using hi) ho hc)⟩
theorem LIB.below (hg : g < A.heap.size) (h : LIB A g x0 x1 x2 x3 x4 x5 x6 L va vn vc X) (b : Below X.heap.size X W) : LIB A g x0 x1 x2 x3 x4 x5 x6 L va vn vc W :=
 h.turned hg b.size b.os b.tape b.output (fun i hi=>b.block i (by have:=h.sz;omega)) (fun i o _ hi _=>(b.block i (Array.getElem?_eq_some_iff.1 hi).1).trans hi)
theorem LIB.new (hgl : g < A.heap.size) (h : A.heap[g]? = some (.cells #[x0,x1,x2,x3,x4,x5,x6,.slice none 0 0] 53 (0,0))) (b : Below A.heap.size A W) (hs : A.heap.size + 3 ≤ W.heap.size) : LIB A g x0 x1 x2 x3 x4 x5 x6 [] none 0 0 W :=
 ⟨b.os,b.tape,b.output,hs,fun i hi _=>b.block i hi,(b.block _ hgl).trans h,OwnB.nil _ _ _ _ _⟩
theorem LIB.step {w1 : World} {c B : Nat} {m : List Int} {la : Option Addr} {ln lc : Nat} (hgl : g < A.heap.size) (hB : B = A.heap.size + 3) (hcc : c = A.heap.size) (h1 : 1 < A.heap.size) (h1' : g ≠ 1) (h : LIB A g x0 x1 x2 x3 x4 x5 x6 L va vn vc W) (b : Below W.heap.size W w1)
  (hm : AtB (hide (fun k=>decide (k < W.heap.size)) w1) (eY m) (.slice la ln lc)) :
  ∃ xs,(w1.alloc (.cells #[.slice la ln lc] 29)).ownsRow (A.heap.size + 3) 29 1 (.slice va vn vc) L.length xs ∧ ∀ v' w5,w5.ownsRow (A.heap.size + 3) 29 1 v' (L.length + 1) (xs ++ [.slice la ln lc]) → (w1.alloc (.cells #[.slice la ln lc] 29)).grownBy w5 (Value.slice va vn vc).ownBlock →
   (v'.ownBlock = (Value.slice va vn vc).ownBlock ∨ v'.ownBlock = some (w1.alloc (.cells #[.slice la ln lc] 29)).heap.size) →
   w5.cell? ⟨g,7,none⟩ = some (.slice va vn vc) ∧ w5.frozen? ⟨g,7,none⟩ = false ∧
   ∀ W2,W2 = w5.setCell ⟨g,7,none⟩ v' → KeepsFrom B W W2 ∧ jY c W W2 ∧ ∃ va vn vc,LIB A g x0 x1 x2 x3 x4 x5 x6 (L ++ [m]) va vn vc W2:=by
 subst hB hcc
 have lt:=pH h.own.w
 have hsz:=h.sz
 have bs:=b.size
 have K : bY (hide (fun k=>decide (k < W.heap.size)) w1) (hide (fun k=>decide (k < A.heap.size + 3) || decide ((Value.slice va vn vc).ownBlock = some k)) w1):=aS fun k _ h2=>⟨by
  simp only [decide_eq_false_iff_not,Nat.not_lt,Bool.or_eq_false_iff] at h2 ⊢
  exact ⟨by omega,fun e=>by have:=lt k e;omega⟩,rfl⟩
 obtain ⟨xs,ho,hf⟩:=FM (ty:=29) h.own (fun k hk=>by simp;omega) b (aX.cons (AtB.keep K _ _ hm) (aX.nil _))
 refine ⟨xs,ho,fun v' w5 h5 hg hat=>?_⟩
 have gs:=hg.size
 simp only [World.size_alloc] at gs
 have ba:=(Below.refl _ w1).alloc (Nat.le_refl _) (.cells #[.slice la ln lc] 29)
 have g5 : w5.heap[g]? = some (.cells #[x0,x1,x2,x3,x4,x5,x6,.slice va vn vc] 53 (0,0)):=by
  rw [hg.block g (by simp;omega) (fun e=>by have:=lt g e.symm;omega)]
  exact (ba.block g (by omega)).trans ((b.block g (by omega)).trans h.cell)
 refine ⟨(eV g5).2.2.2.2.2.2.2,(fO g5).2.2.2.2.2.2.2,fun W2 hW=>?_⟩
 have low : ∀ i,i < W.heap.size → i ≠ g → (Value.slice va vn vc).ownBlock ≠ some i → W2.heap[i]? = W.heap[i]?:=fun i hi hn hv=>by
  rw [hW,Below.heap_setCell _ _ _ _ hn,hg.block i (by simp;omega) (fun e=>hv e.symm)]
  exact (ba.block i (by omega)).trans (b.block i hi)
 have lowA : ∀ i,i < A.heap.size + 3 → i ≠ g → W2.heap[i]? = W.heap[i]?:=fun i hi hn=>low i (by omega) hn (fun e=>by have:=lt i e;omega)
 have O5:=hf v' w5 h5 hg hat
 obtain ⟨qa,qc,rfl⟩:=gP h5
 have s2 : W2.heap.size = w5.heap.size:=by rw [hW];simp
 have r2 : W2.os = w5.os ∧ W2.tape = w5.tape ∧ W2.output = w5.output:=by rw [hW];exact kQ _ _ _
 refine ⟨⟨by omega,fun i ob hi ho' hcells=>?_⟩,fun i hi=>lowA i (by omega) (by omega),qa,L.length + 1,qc, ?_, ?_, ?_,by omega,fun i hi hn=>(lowA i (by omega) hn).trans (h.old i hi hn), ?_, ?_⟩
 ·rw [low i (Array.getElem?_eq_some_iff.1 ho').1 (by omega) (fun e=>?_)]
  ·exact ho'
  ·obtain ⟨ys,hy,_⟩:=h.own
   rcases hy.2 with ⟨h1,_⟩ | ⟨g',cap,cur,h1,_,h3,_⟩
   ·rw [h1] at e;cases e
   ·rw [h1] at e;cases e
    rw [ho'] at h3;cases h3;cases hcells
 ·rw [r2.1,hg.os];exact b.os.trans h.os
 ·rw [r2.2.1,hg.tape];exact b.tape.trans h.tape
 ·rw [r2.2.2,hg.output];exact b.output.trans h.output
 ·rw [hW];exact row_fill7 g5
 ·rw [List.length_append,List.map_append]
  have lt5:=pH O5.w
  exact O5.turned (fun k hk=>by have:=(lt5 k hk).1;simp;omega) (fun i o hi ho _=>by rw [hW,Below.heap_setCell _ _ _ _ (by simp at hi;show i ≠ g;omega)];exact ho)
theorem LIB.lv {w : World} (h : LIB A g x0 x1 x2 x3 x4 x5 x6 L va vn vc W) (Z : LV w A) (hg : w.heap.size + 1 + 1 < g) : LV w W:=by
 have lt:=(Array.getElem?_eq_some_iff.1 Z.c4).1
 have sz:=h.sz
 exact ⟨⟨h.os.trans Z.bw.os,h.tape.trans Z.bw.tape,h.output.trans Z.bw.output,Nat.le_trans Z.bw.size (by omega),fun i hi=>(h.old i (by omega) (by omega)).trans (Z.bw.block i hi)⟩,(h.old _ (by omega) (by omega)).trans Z.c2,(h.old _ (by omega) (by omega)).trans Z.c3,(h.old _ (by omega) (by omega)).trans Z.c4⟩
theorem LIB.count (h : LIB A g x0 x1 x2 x3 x4 x5 x6 L va vn vc W) : vn = L.length:=by
 obtain ⟨xs,ho,_⟩:=h.own
 obtain ⟨a,c,e⟩:=gP ho
 cases e;rfl
theorem LIB.form {p : Nat → Bool} (h : LIB A g x0 x1 x2 x3 x4 x5 x6 L va vn vc W) (hp : p g = true) : bY (hide p A) (hide p W):=aS fun k h1 h2=>⟨h2,h.old k h1 (fun e=>by rw [e,hp] at h2;cases h2)⟩
theorem LIB.marks {p : Nat → Bool} (h : LIB A g x0 x1 x2 x3 x4 x5 x6 L va vn vc W) (h0 : rU L va vn vc) (hp : ∀ k,A.heap.size + 3 ≤ k → p k = false) : fS (hide p W) L (.slice va vn vc):=by
 have h1:=h.own.at (fun k hk=>by simp;omega) (fun hh=>by
  cases L with
  | nil=>simp at hh
  | cons a l=>rfl) (fun _ hh=>by
  obtain ⟨rfl,rfl,rfl⟩:=h0 (List.eq_nil_of_length_eq_zero hh)
  rfl)
 unfold fS
 refine AtB.keep (aS fun k _ h2=>⟨?_,rfl⟩) _ _ h1
 exact hp k (by simpa using h2)
end
def InvL (A : World) (g : Nat) (x0 x1 x2 x3 x4 x5 x6 : Value) (pre : List Bs) (W : World) : Prop:=∃ L va vn vc,bZ gE pre = some L ∧ rU L va vn vc ∧ LIB A g x0 x1 x2 x3 x4 x5 x6 L va vn vc W
theorem InvL.lets {A : World} {g : Nat} {x0 x1 x2 x3 x4 x5 x6 : Value} {B c : Nat} (hgl : g < A.heap.size) (hB : B = A.heap.size + 3) (hc : c = A.heap.size) : Lets B c (InvL A g x0 x1 x2 x3 x4 x5 x6):=by
 rintro s X W row ⟨L,la,ln,lc,e0,e1,h⟩ hg hr
 refine ⟨L,la,ln,lc,e0,e1,h.turned hgl hg.size hg.os hg.tape hg.output (fun i hi=>hg.block i (by have:=h.sz;omega) fun e=>?_) fun i o hi ho hcells=>(hg.block i (Array.getElem?_eq_some_iff.1 ho).1 fun e=>?_).trans ho⟩
 ·rcases hr i e.symm with h1 | ⟨h1,_⟩ <;> omega
 ·rcases hr i e.symm with h1 | ⟨h1,o',h2,h3⟩
  ·omega
  ·rw [ho] at h2;cases h2;rw [hcells] at h3;cases h3
def InvJ (A : World) (gl : Nat) (pre : List Bs) (W : World) : Prop:=∃ L la ln lc,bZ iC pre = some L ∧ rU L la ln lc ∧ LJ A gl L la ln lc W
theorem InvJ.lets {A : World} {gl B c : Nat} (hgl : gl < A.heap.size) (hB : B = A.heap.size + 3) (hc : c = A.heap.size) : Lets B c (InvJ A gl):=by
 rintro s X W row ⟨L,la,ln,lc,e0,e1,h⟩ hg hr
 refine ⟨L,la,ln,lc,e0,e1,h.turned hgl hg.size hg.os hg.tape hg.output (fun i hi=>hg.block i (by have:=h.sz;omega) fun e=>?_) fun i o hi ho hcells=>(hg.block i (Array.getElem?_eq_some_iff.1 ho).1 fun e=>?_).trans ho⟩
 ·rcases hr i e.symm with h1 | ⟨h1,_⟩ <;> omega
 ·rcases hr i e.symm with h1 | ⟨h1,o',h2,h3⟩
  ·omega
  ·rw [ho] at h2;cases h2;rw [hcells] at h3;cases h3
structure qI (w : World) (n : Nat) (W0 W : World) : Prop where
 lv : LV w W
 kf : KeepsFrom n W0 W
theorem LV.zero {w W W3 : World} (h : LV w W) (hL : W3 = kM W w.heap.size (str []) (.int .u8 0) (str []) (.slice none 0 0) (.slice none 0 0) (.int .i64 0) (.slice none 0 0) (.slice none 0 0) (.int .i64 0) (.bool false)) : LV w W3 ∧ W3.heap.size = W.heap.size ∧ ∀ i,w.heap.size + 1 + 1 < i → W3.heap[i]? = W.heap[i]?:=by
 obtain ⟨e0,e1,e2⟩:=vF (a:=str []) (b:=.int .u8 0) (c:=str []) (d:=.slice none 0 0) (e:=.slice none 0 0) (f:=.int .i64 0) (x:=.slice none 0 0) (y:=.slice none 0 0) (n:=.int .i64 0) (t:=.bool false) h.c2 h.c3 h.c4
 have lr:=xO (W:=W) (g:=w.heap.size) (a:=str []) (b:=.int .u8 0) (c:=str []) (d:=.slice none 0 0) (e:=.slice none 0 0) (f:=.int .i64 0) (x:=.slice none 0 0) (y:=.slice none 0 0) (n:=.int .i64 0) (t:=.bool false)
 rw [← hL] at e0 e1 e2 lr
 have ls : W3.heap.size = W.heap.size:=by rw [hL];exact xP
 have lo' : ∀ i,i ≠ w.heap.size → i ≠ w.heap.size + 1 → i ≠ w.heap.size + 1 + 1 → W3.heap[i]? = W.heap[i]?:=fun i h0 h1 h2=>by rw [hL];exact uA h0 h1 h2
 exact ⟨⟨⟨lr.1.trans h.bw.os,lr.2.1.trans h.bw.tape,lr.2.2.trans h.bw.output,by rw [ls];exact h.bw.size,fun i hi=>(lo' i (by omega) (by omega) (by omega)).trans (h.bw.block i hi)⟩,e0,e1,e2⟩,ls,fun i hi=>lo' i (by omega) (by omega) (by omega)⟩
theorem hide_keepsD {w U : World} {D : Nat} {o o' : Obj} (ho : o.isCells = false) (h : U.heap[D]? = some o) : bY (hide (lo w) U) (hide (lo w) (U.putObj D o')):=fun b cs t f hu=>by
 obtain ⟨h1,h2⟩:=lG hu
 rw [lH _ _ b h1,World.putObj_heap_other (fun e=>by subst e;rw [h] at h2;cases h2;cases ho)]
 exact h2
theorem qI.grown {w W0 X W : World} {n B c : Nat} {row : Option Nat} (h : qI w n W0 X) (hc : w.heap.size + 1 + 1 < c) (hB : w.heap.size + 1 + 1 < B) (h0 : W0.heap.size ≤ c) (h1 : W0.heap.size ≤ B) (hg : X.grownBy W row) (hr : ∀ r,row = some r → r = c ∨ (B ≤ r ∧ ∃ o : Obj,X.heap[r]? = some o ∧ o.isCells = false)) : qI w n W0 W:=by
 have lt:=(Array.getElem?_eq_some_iff.1 h.lv.c4).1
 have low : ∀ i,i ≤ w.heap.size + 1 + 1 → W.heap[i]? = X.heap[i]?:=fun i hi=>hg.block i (by omega) fun e=>by
  rcases hr i e.symm with h1 | ⟨h1,_⟩ <;> omega
 refine ⟨⟨⟨hg.os.trans h.lv.bw.os,hg.tape.trans h.lv.bw.tape,hg.output.trans h.lv.bw.output,Nat.le_trans h.lv.bw.size hg.size,fun i hi=>(low i (by omega)).trans (h.lv.bw.block i hi)⟩,(low _ (by omega)).trans h.lv.c2,(low _ (by omega)).trans h.lv.c3,(low _ (by omega)).trans h.lv.c4⟩,Nat.le_trans h.kf.size hg.size,fun i o hi ho hcells=>?_⟩
 have hi0:=(Array.getElem?_eq_some_iff.1 ho).1
 refine (hg.block i (Nat.lt_of_lt_of_le hi0 h.kf.size) fun e=>?_).trans (h.kf.same i o hi ho hcells)
 rcases hr i e.symm with h2 | ⟨h2,_⟩ <;> omega
theorem qI.lets {w W0 : World} {n B c : Nat} {P : List Bs → Prop} (hc : w.heap.size + 1 + 1 < c) (hB : w.heap.size + 1 + 1 < B) (h0 : W0.heap.size ≤ c) (h1 : W0.heap.size ≤ B) : Lets B c (fun (pre : List Bs) W=>P pre ∧ qI w n W0 W):=by
 rintro s X W row ⟨hp,h⟩ hg hr
 exact ⟨hp,h.grown hc hB h0 h1 hg hr⟩
open Go Go.RowKit Ly
attribute [local go_sem] Oper.semAt_some
theorem vA (sep : Bs) : ∀ (l : List Bs) (x : Bs),x ∈ l → x.length ≤ (aT sep l).length
 | [],x,h=>by cases h
 | [y],x,h=>by
  have : x = y:=by simpa using h
  subst this;exact Nat.le_refl _
 | y :: z :: r,x,h=>by
  rcases List.mem_cons.1 h with rfl | h
  ·simp [aT]
  ·have:=vA sep (z :: r) x h
   simp only [aT,List.length_append] at this ⊢
   omega
theorem vW {J sep : Bs} (hn : sep ≠ []) (hJ : J.length ≤ 1000000000) {ps : List Bs} (h : Lib.split J sep = ps) : ps.length ≤ 1000000001 ∧ ∀ x ∈ ps,x.length ≤ 1000000000:=by
 refine ⟨?_,fun x hx=>?_⟩
 ·have h1:=split_le J sep hn
  rw [h] at h1;omega
 ·have h1:=vA sep ps x hx
  rw [← h,join_split_by] at h1;omega
set_option maxHeartbeats 40000000 in
theorem line_list (T a b Y r J : Bs) (f : Fm) (fi : Int) (E : tS T a b f fi 0) (hs : b ≠ nS) (hb : Lib.hasPrefix b byT = true) (hy : Lib.trimPrefix b byT = Y) (hc : Lib.cut Y fJ = (r,J,true)) (w : World) (ht : Tabs w) : Calls Tryz.prog 120 #[str T] w (eH T w):=by
 have HT:=Hd ht
 have EE:=Hd E
 have NX : (b == ([115,116,105,108,108,32,116,111,32,115,104,111,119] : Bs)) = false:=beq_eq_false_iff_ne.2 hs
 have PB : Hid (∀ W,Calls Tryz.prog 39 #[str b,str [98,121,32]] W fun e w'=>e = .returned (.tuple #[str Y,.bool true]) ∧ w' = W):=fun W=>by
  have:=jT byT b W
  rw [hb,hy] at this;exact this
 obtain ⟨ps,hps⟩ : ∃ ps,Lib.split J cs = ps:=⟨_,rfl⟩
 have EQ : Hid (cO T = match bZ gE ps with
   | some ms=>some (.mk r f 0 [] ms)
   | none=>none):=by show _ = _;rw [E.got,if_pos rfl,if_neg hs,if_pos hb,hy,hc];simp only [if_true,hps];try rfl
 have YL : Hid (Y.length ≤ 1000000000):=by show _ ≤ _;rw [← hy];have:=pP b byT;have:=E.bl;omega
 have JL : Hid (J.length ≤ 1000000000):=by show _ ≤ _;have:=(mN hc).2;have:=YL.out;omega
 have SPL:=Hd hps
 have PL:=Hd (vW (by decide) JL.out hps)
 have CF:=Hd hc
 clear ht E hs hb hy hc hps
 refine (callsIn_wide (n:=100)).1 ?_
 refine callsIn_of_wp_marks Tryz.func120 rfl trivial (gM ?_) rfl
 simp only [Tryz.ntmps120,List.size_toArray,List.length_cons,List.length_nil,Nat.reduceAdd,Nat.reduceSub,Array.replicate_succ,Array.replicate_zero,List.push_toArray,List.append_toArray,List.nil_append,List.cons_append]
 have Z:=Hd (iL w)
 gi_wp2_with (first
  | (have Z13':=Z13.out;clear Z13';refine ⟨trivial, ?_⟩;gi_at_call 119;refine (callsIn_wide.2 (wQ J cs _)).mono ?_;rintro e w14 ⟨rfl,rfl⟩)
  | (have Z10':=Z10.out;clear Z10';first
    | (refine ⟨trivial, ?_⟩;gi_at_call 39;refine (callsIn_wide.2 (PB.out _)).mono ?_;rintro e w11 ⟨rfl,rfl⟩)
    | (refine ⟨trivial, ?_⟩;gi_at_call 32;refine (callsIn_wide.2 (oB Y fJ _ _ _ YL.out CF.out _ ((HT.out.m.keep (aA Z10.out.bw)).keep (bH _ _)))).mono ?_;rintro e w12 ⟨rfl,b12⟩;have Z13:=Hd ((Z10.out.below ((Below.refl _ _).alloc (Nat.le_refl _) (.cells #[.int .u8 f.op,str f.name,.slice fa fn fc,.slice fb fm fd] 25))).below b12);have zr:=kc b12 (heap_alloc_new w10 (.cells #[.int .u8 f.op,str f.name,.slice fa fn fc,.slice fb fm fd] 25));have B12:=Hd (aB ((Below.refl _ _).alloc (Nat.le_refl _) (.cells #[.int .u8 f.op,str f.name,.slice fa fn fc,.slice fb fm fd] 25)) b12);obtain ⟨p0,p1,p2,p3,-,-,-,-⟩:=row25' zr;clear zr b12))
  | (refine ⟨trivial, ?_⟩;gi_at_call 32;refine (callsIn_wide.2 (oB T cs _ _ _ EE.out.len EE.out.cut _ (HT.out.m.keep (aA Z.out.bw)))).mono ?_;rintro e w7 ⟨rfl,b7⟩;have Z7:=Hd (Z.out.below b7);clear b7)
  | (refine ⟨trivial, ?_⟩;gi_at_call 39;refine (callsIn_wide.2 (EE.out.pf _)).mono ?_;rintro e w8 ⟨rfl,rfl⟩)
  | (refine ⟨trivial, ?_⟩;gi_at_call 43;refine (callsIn_wide.2 (EE.out.rd _ (HT.out.m.keep (aA Z7.out.bw)) (HT.out.r.keep (aA Z7.out.bw)) (HT.out.n.keep (aA Z7.out.bw)))).mono ?_;rintro e w10 ⟨fa,fn,fc,fb,fm,fd,rfl,h1,h2,b10⟩;have Z10:=Hd (Z7.out.below b10);have B10:=Hd b10;have H1:=Hd h1;have H2:=Hd h2;clear h1 h2 b10))
 change Code.wpIn _ _ _ _ _ _ ((((w12.alloc (.cells #[str r,.int .u8 f.op,str f.name,.slice fa fn fc,.slice fb fm fd,.int .i64 0,.slice none 0 0,.slice none 0 0] 53)).alloc (.cells #[str J] 9)).alloc (.cells #[str cs] 9)).alloc (.cells #[.int .i64 0] 3))
 have zg:=heap_alloc_new w12 (.cells #[str r,.int .u8 f.op,str f.name,.slice fa fn fc,.slice fb fm fd,.int .i64 0,.slice none 0 0,.slice none 0 0] 53)
 have bA : Below w12.heap.size w12 (w12.alloc (.cells #[str r,.int .u8 f.op,str f.name,.slice fa fn fc,.slice fb fm fd,.int .i64 0,.slice none 0 0,.slice none 0 0] 53)):=bnew
 have ZA:=Hd (Z13.out.below bA)
 have BA:=Hd (aB B12.out bA)
 have K1 : bY (hide (lo w8) w10) (hide (fun k=>decide (k < w8.heap.size) || decide (k = w12.heap.size)) (w12.alloc (.cells #[str r,.int .u8 f.op,str f.name,.slice fa fn fc,.slice fb fm fd,.int .i64 0,.slice none 0 0,.slice none 0 0] 53))):=aS fun k h1 h2=>⟨by have:=B12.out.size;simp only [lo,decide_eq_false_iff_not,Bool.or_eq_false_iff] at h2 ⊢;exact ⟨h2,by omega⟩,BA.out.block k h1⟩
 have HA1:=Hd (H1.out.keep K1)
 have HA2:=Hd (H2.out.keep K1)
 have ZS : Hid ((w12.alloc (.cells #[str r,.int .u8 f.op,str f.name,.slice fa fn fc,.slice fb fm fd,.int .i64 0,.slice none 0 0,.slice none 0 0] 53)).heap.size = w12.heap.size + 1):=by show _ = _;simp
 have ZG:=Hd zg
 have ZL : Hid (w.heap.size + 1 + 1 < w12.heap.size):=(Array.getElem?_eq_some_iff.1 Z13.out.c4).1
 have Z78 : Hid (w8.heap.size ≤ w12.heap.size):=Nat.le_trans B10.out.size B12.out.size
 have Z8 : Hid (w.heap.size + 1 + 1 < w8.heap.size):=(Array.getElem?_eq_some_iff.1 Z7.out.c4).1
 clear zg bA K1 p0 p1 p2 p3 B12 BA H1 H2 Z10 Z13 Z7 B10
 generalize w12.alloc (.cells #[str r,.int .u8 f.op,str f.name,.slice fa fn fc,.slice fb fm fd,.int .i64 0,.slice none 0 0,.slice none 0 0] 53) = A at *
 generalize w12.heap.size = g at *
 generalize w10.heap.size = g15 at *
 have SA : Hid (jX cs (g + 1) J (((A.alloc (.cells #[str J] 9)).alloc (.cells #[str cs] 9)).alloc (.cells #[.int .i64 0] 3))):=by
  have:=BZ (s:=J) (sep:=cs) (HT.out.m.keep (aA ZA.out.bw))
  rw [ZS.out] at this
  exact this
 have B36 : Hid (Below A.heap.size A (((A.alloc (.cells #[str J] 9)).alloc (.cells #[str cs] 9)).alloc (.cells #[.int .i64 0] 3))):=(bnew.alloc (by simp) _).alloc (by simp;omega) _
 have Z6 : Hid ((((A.alloc (.cells #[str J] 9)).alloc (.cells #[str cs] 9)).alloc (.cells #[.int .i64 0] 3)).heap.size = A.heap.size + 3):=by show _ = _;simp
 have Z1 : Hid (3 < w.heap.size):=by obtain ⟨-,v,hv,-⟩:=HT.out.e;exact World.block_lt_of_cell? w _ hv
 generalize ((A.alloc (.cells #[str J] 9)).alloc (.cells #[str cs] 9)).alloc (.cells #[.int .i64 0] 3) = W6 at *
 have hgA : g < A.heap.size:=by have:=ZS.out;omega
 refine wp_rangeCell rfl (by omega) (gf:=272) (lb:=#[one (g + 1 + 1),one (g + 1),one (g + 1 + 2)]) rfl trivial (enters_of Tryz.func272 (by kernel_rfl) rfl) (enc:=str) (c:=g + 1) (Kp:=jY (g + 1)) (l:=ps) (w0:=W6) (by have:=Z6.out;omega)
  (KA _ J cs (by decide) JL.out (by decide) (g + 1) (by have:=Z1.out;have:=ZL.out;omega) _ SPL.out W6 SA.out) jY.trans (fun W r o' hr k hk=>World.putObj_heap_other (by have:=Z1.out;have:=Z6.out;have:=ZL.out;have:=ZS.out;omega)) (Below.refl _ _) rfl
  (InvL A g (str r) (.int .u8 f.op) (str f.name) (.slice fa fn fc) (.slice fb fm fd) (.int .i64 0) (.slice none 0 0)) (fun j pre W=>(j = .ret ∧ bZ gE pre = none) ∧ qI w w.heap.size w W) (InvL.lets hgA Z6.out ZS.out.symm) (fun j=>qI.lets (P:=fun pre=>j = .ret ∧ bZ gE pre = none) (by have:=ZL.out;omega) (by have:=ZL.out;have:=Z6.out;have:=ZS.out;omega) (by have:=ZL.out;omega) (by have:=ZL.out;have:=Z6.out;have:=ZS.out;omega)) ?start
  (fun a x=>{ tmps:=(a.tmps.setIfInBounds 100 (str x)).setIfInBounds 22 (str x),defers:=[] }) ?assign ?body ?done ?stop
 case start =>
  exact ⟨[],none,0,0,rfl,fun _=>⟨rfl,rfl,rfl⟩,LIB.new hgA ZG.out B36.out (Nat.le_of_eq Z6.out.symm)⟩
 case assign =>
  intro rr x W K hK
  simp only [List.setIfInBounds_toArray,List.set_cons_zero,List.set_cons_succ] at hK ⊢
  gi_wp2
  exact hK
 case body =>
  rintro rr pre x W hrr ⟨q,hq⟩ ⟨L,va,vn,vc,el,nl,li⟩ hpre
  simp only [List.setIfInBounds_toArray,List.set_cons_zero,List.set_cons_succ]
  have hx:=yF hpre
  have hxm:=List.mem_of_getElem? hx
  have XN : Hid (x.length ≤ 1000000000):=PL.out.2 x hxm
  obtain ⟨p1,N,t1,hcut⟩ : ∃ p1 N t1,Lib.cut x eD = (p1,N,t1):=⟨_,_,_,rfl⟩
  have PC:=Hd hcut
  have NN : Hid (N.length ≤ 1000000000):=by show _ ≤ _;have:=(mN hcut).2;have:=XN.out;omega
  have PG : Hid (bZ gE (pre ++ [x]) = match (if t1 = true then bZ iC (Lib.split N eX) else some []) with
    | some m=>some (L ++ [m])
    | none=>none):=by
   show _ = _
   rw [oI,el]
   unfold gE
   rw [hcut]
   simp only []
   cases (if t1 = true then bZ iC (Lib.split N eX) else some []) <;> rfl
  have NL : Hid (L.length ≤ 1000000001):=by
   have h1:=nF _ _ _ el
   have h2:=hpre.length_le
   have h3:=PL.out.1
   show _ ≤ _
   simp at h2;omega
  have hvn:=li.count
  have LW:=Hd li
  have HQ:=Hd hq
  have zW:=li.sz
  have zA:=ZS.out
  have z1:=Z1.out
  have zl:=ZL.out
  have GW : w.heap.size ≤ A.heap.size:=by omega
  have LVW : Hid (LV w W):=li.lv ZA.out ZL.out
  have BW : Hid (Below w.heap.size w W):=LVW.out.bw
  obtain ⟨j0,hj0,hzj,hsj,hbj⟩:=info_parts info29
  clear hx hpre li hq hcut el hxm nl
  subst hvn
  cases t1
  ·have PG' : Hid (bZ gE (pre ++ [x]) = some (L ++ [[]])):=PG.out
   clear PG
   gi_wp2_with (first
    | (refine ⟨trivial, ?_⟩;gi_at_call 32;refine (CallsIn.inRound rr (callsIn_wide.2 (oB x eD _ _ _ XN.out PC.out _ (HT.out.m.keep (aA BW.out))))).mono ?_;rintro e w1 ⟨rfl,b1⟩;have B1:=Hd b1;obtain ⟨-,-,-,-,-,-,-,x7⟩:=eV (LW.out.below hgA b1).cell;have zg1 : g < w1.heap.size:=(by have:=b1.size;omega);obtain ⟨xs,OW,CT⟩:=LIB.step (B:=W6.heap.size) (c:=g + 1) (m:=[]) (la:=none) (ln:=0) (lc:=0) hgA Z6.out ZS.out.symm (by omega) (by omega) LW.out (aB b1 ((Below.refl _ _).alloc (Nat.le_refl _) (.cells #[.slice none 0 0] 29))) AtB.nil;have OWH:=Hd OW;have CTH:=Hd CT;have zb1:=b1.size;clear b1 OW CT)
    | (gi_at_builtin;refine wpListIn_append_own_at _ rfl _ _ 51 rfl (A.heap.size + 3) 29 j0 (.slice none 0 0) 1 24 Tryz.underlying51 hj0 hzj hsj hbj rfl (by decide) _ L.length xs rfl OWH.out ⟨w1.heap.size + 1,0,none⟩ 1 1 [.slice none 0 0] rfl rfl (by have:=cell_one_new (w1.alloc (.cells #[.slice none 0 0] 29)) (.slice none 0 0) 29;rw [World.size_alloc] at this;exact this) (by intro u hu;simp at hu;subst hu;rfl) (by have:=NL.out;unfold maxLen;omega) (by have:=NL.out;omega) (by simp;omega) ?_;intro v5 w5 h5 hg5 hat5;obtain ⟨a5,c5,rfl⟩:=gP h5;obtain ⟨c7,f7,FN⟩:=CTH.out _ w5 h5 hg5 hat5;have FNH:=Hd FN;clear h5 hg5 hat5 FN x7))
   obtain ⟨r1,r2,va',vn',vc',r3⟩:=FNH.out _ rfl
   exact ⟨r1,r2,_,va',vn',vc',PG'.out,rU.of,r3⟩
  ·obtain ⟨Q,hQ⟩ : ∃ Q,Lib.split N eX = Q:=⟨_,rfl⟩
   have SP2:=Hd hQ
   have QL:=Hd (vW (by decide) NN.out hQ)
   have PG' : Hid (bZ gE (pre ++ [x]) = match bZ iC Q with
     | some m=>some (L ++ [m])
     | none=>none):=by
    show _ = _
    rw [PG.out,← hQ];rfl
   clear PG hQ
   gi_wp2_with (first
    | (refine ⟨trivial, ?_⟩;gi_at_call 32;refine (CallsIn.inRound rr (callsIn_wide.2 (oB x eD _ _ _ XN.out PC.out _ (HT.out.m.keep (aA BW.out))))).mono ?_;rintro e w1 ⟨rfl,b1⟩;have B1:=Hd b1;clear b1)
    | (refine ⟨trivial, ?_⟩;gi_at_call 119;refine (CallsIn.inRound rr (callsIn_wide.2 (wQ N eX _))).mono ?_;rintro e w2 ⟨rfl,rfl⟩))
   change Code.wpIn _ _ _ _ _ _ ((((w1.alloc (.cells #[.slice none 0 0] 29)).alloc (.cells #[str N] 9)).alloc (.cells #[str eX] 9)).alloc (.cells #[.int .i64 0] 3))
   have BA2:=Hd (aB B1.out ((Below.refl _ _).alloc (Nat.le_refl _) (.cells #[.slice none 0 0] 29)))
   have zg2:=Hd (heap_alloc_new w1 (.cells #[.slice none 0 0] 29))
   have ZS2 : Hid ((w1.alloc (.cells #[.slice none 0 0] 29)).heap.size = w1.heap.size + 1):=by show _ = _;simp
   have ZW1:=Hd B1.out.size
   clear B1
   generalize w1.alloc (.cells #[.slice none 0 0] 29) = A2 at *
   generalize w1.heap.size = gl at *
   have MX2:=Hd (HT.out.m.keep (aA (aB BW.out BA2.out)))
   have SA2 : Hid (jX eX (gl + 1) N (((A2.alloc (.cells #[str N] 9)).alloc (.cells #[str eX] 9)).alloc (.cells #[.int .i64 0] 3))):=by
    have:=BZ (s:=N) (sep:=eX) MX2.out
    rw [ZS2.out] at this
    exact this
   have B37 : Hid (Below A2.heap.size A2 (((A2.alloc (.cells #[str N] 9)).alloc (.cells #[str eX] 9)).alloc (.cells #[.int .i64 0] 3))):=(bnew.alloc (by simp) _).alloc (by simp;omega) _
   have Z7' : Hid ((((A2.alloc (.cells #[str N] 9)).alloc (.cells #[str eX] 9)).alloc (.cells #[.int .i64 0] 3)).heap.size = A2.heap.size + 3):=by show _ = _;simp
   generalize ((A2.alloc (.cells #[str N] 9)).alloc (.cells #[str eX] 9)).alloc (.cells #[.int .i64 0] 3) = W7 at *
   have hgl : gl < A2.heap.size:=by have:=ZS2.out;omega
   have zz : W.heap.size ≤ gl:=ZW1.out
   have HQ7 : W7.heap[rr]? = some (.loop q):=by
    have hl:=(Array.getElem?_eq_some_iff.1 HQ.out).1
    have hs2:=BA2.out.size
    exact (B37.out.block rr (by omega)).trans ((BA2.out.block rr hl).trans HQ.out)
   obtain ⟨k0,hk0,hzk,hsk,hbk⟩:=info_parts info3z'
   refine wp_rangeCellIn (l₀:=rr) (r₀:=q) rfl HQ7 (by omega) (gf:=272) (lb:=#[one (gl + 1 + 1),one (gl + 1),one (gl + 1 + 2)]) rfl trivial (enters_of Tryz.func272 (by kernel_rfl) rfl) (enc:=str) (c:=gl + 1) (Kp:=jY (gl + 1)) (l:=Q) (w0:=W7) (by have:=Z7'.out;omega)
    (KA _ N eX (by decide) NN.out (by decide) (gl + 1) (by omega) _ SP2.out W7 SA2.out) jY.trans (fun W' r o' hr k hk=>World.putObj_heap_other (by have:=Z7'.out;have:=ZS2.out;omega)) (Below.refl _ _) rfl
    (InvJ A2 gl) (fun j pre2 W'=>(j = .ret ∧ bZ iC pre2 = none) ∧ qI w W6.heap.size W W') (InvJ.lets hgl Z7'.out ZS2.out.symm) (fun j=>qI.lets (P:=fun pre2=>j = .ret ∧ bZ iC pre2 = none) (by omega) (by have:=Z7'.out;have:=ZS2.out;omega) (by omega) (by have:=Z7'.out;have:=ZS2.out;omega)) ?start2
    (fun a x=>{ tmps:=(a.tmps.setIfInBounds 110 (str x)).setIfInBounds 27 (str x),defers:=[] }) ?assign2 ?body2 ?done2 ?stop2
   case start2=>exact ⟨[],none,0,0,rfl,fun _=>⟨rfl,rfl,rfl⟩,LJ.new hgl zg2.out B37.out (Nat.le_of_eq Z7'.out.symm)⟩
   case assign2 =>
    intro r2 x2 W2 K hK
    simp only [List.setIfInBounds_toArray,List.set_cons_zero,List.set_cons_succ] at hK ⊢
    gi_wp2
    exact hK
   case stop2 =>
    rintro j pre2 W2 ⟨post,hpost⟩ ⟨⟨rfl,hno⟩,ls⟩
    have ST : (KeepsFrom W6.heap.size W W2 ∧ ((Code.ret = Code.ret) ∧ bZ gE (pre ++ [x]) = none) ∧ qI w w.heap.size w W2):=by
     refine ⟨ls.kf,⟨rfl, ?_⟩,ls.lv,ls.lv.bw.size,fun i o hi ho hcells=>?_⟩
     ·rw [PG'.out,← hpost,oH _ _ _ hno]
     ·exact absurd (Array.getElem?_eq_some_iff.1 ho).1 (by omega)
    gi_wp2
    exact ⟨ST.1,⟨rfl,ST.2.1.2⟩,ST.2.2⟩
   case body2 =>
    rintro r2 pre2 x2 W2 hr2 hq2 ⟨M,la,ln,lc,em,nm,lj⟩ hpre2
    simp only [List.setIfInBounds_toArray,List.set_cons_zero,List.set_cons_succ]
    have hx2:=yF hpre2
    have XN2 : x2.length ≤ 1000000000:=QL.out.2 x2 (List.mem_of_getElem? hx2)
    have NL2 : Hid (M.length ≤ 1000000001):=by
     have h1:=nF _ _ _ em
     have h2:=hpre2.length_le
     have h3:=QL.out.1
     show _ ≤ _
     simp at h2;omega
    have AS : Hid (bZ iC (pre2 ++ [x2]) = match iC x2 with
      | some z=>some (M ++ [z])
      | none=>none):=by
     show _ = _
     rw [oI,em]
     cases iC x2 <;> rfl
    have hvn2:=lj.count
    have JW:=Hd lj
    have zW2:=lj.sz
    have BW2 : Hid (Below W.heap.size W W2):=lj.bw BA2.out zz
    clear hx2 lj hpre2 hq2 em nm
    subst hvn2
    rcases ED x2 XN2 with ⟨z,hz,hat⟩ | ⟨z,hz,hat⟩
    ·have AT:=Hd hat
     have AS' : Hid (bZ iC (pre2 ++ [x2]) = some (M ++ [z])):=by show _ = _;rw [AS.out,hz]
     clear hat hz AS XN2
     gi_wp2_with (first
      | (refine ⟨trivial, ?_⟩;gi_at_call 33;refine (CallsIn.inRound r2 (CallsIn.inRound rr (callsIn_wide.2 (AT.out _)))).mono ?_;rintro e w3 ⟨rfl,b3⟩;obtain ⟨OW2,CT2⟩:=LJ.put (B:=W7.heap.size) (c:=gl + 1) (z:=z) (o:=.cells #[.int .i64 z] 3) hgl Z7'.out ZS2.out.symm (by omega) (by omega) JW.out b3;have OWH2:=Hd OW2;have CTH2:=Hd CT2;have y0:=(box_cell (JW.out.below hgl b3).cell 0).trans rfl;have zb3:=b3.size;have zg3 : gl < w3.heap.size:=(by omega);clear b3 OW2 CT2)
      | (gi_at_builtin;refine wpListIn_append_own_at _ rfl _ _ 29 rfl (A2.heap.size + 3) 3 k0 (.int .i64 0) 1 8 Tryz.underlying29 hk0 hzk hsk hbk rfl (by decide) _ M.length _ rfl OWH2.out ⟨w3.heap.size,0,none⟩ 1 1 [.int .i64 z] rfl rfl (cell_one_new _ _ _) (by intro u hu;simp at hu;subst hu;rfl) (by have:=NL2.out;unfold maxLen;omega) (by have:=NL2.out;omega) (by simp;omega) ?_;intro v5 w5 h5 hg5 hat5;obtain ⟨a5,c5,rfl⟩:=gP h5;obtain ⟨c7,f7,FN⟩:=CTH2.out _ w5 h5 hg5 hat5;have FNH2:=Hd FN;clear h5 hg5 hat5 FN y0))
     obtain ⟨r1,r2',la',ln',lc',r3⟩:=FNH2.out _ rfl
     exact ⟨r1,r2',_,la',ln',lc',AS'.out,rU.of,r3⟩
    ·have AT:=Hd hat
     have AS' : Hid (bZ iC (pre2 ++ [x2]) = none):=by show _ = _;rw [AS.out,hz]
     have Q67:=q67n
     have ER : Hid (wL W2):=HT.out.e.keep (aA (aB BW.out BW2.out))
     clear hat hz AS XN2
     gi_wp2_with (refine ⟨trivial, ?_⟩;gi_at_call 33;refine (CallsIn.inRound r2 (CallsIn.inRound rr (callsIn_wide.2 (AT.out _ ER.out)))).mono ?_;rintro e w3 ⟨N3,rfl,b3⟩;have Z3:=Hd (LVW.out.below (aB BW2.out b3));have B3:=Hd b3;have BT3:=Hd (aB BW2.out b3);clear b3;obtain ⟨f0,f1,f2,f3,f4,f5,f6,f7⟩:=fO Z3.out.c2;obtain ⟨u0,u1,u2,u3,u4,u5,u6,u7⟩:=eV Z3.out.c2;obtain ⟨y3,r3⟩:=row9 Z3.out.c3;obtain ⟨y4,r4⟩:=row9 Z3.out.c4)
     obtain ⟨q1,q2,q3⟩:=LV.zero Z3.out rfl
     exact ⟨⟨Nat.le_trans B3.out.size (Nat.le_of_eq q2.symm),fun i o hi ho _=>(q3 i (by have:=Z7'.out;omega)).trans ((B3.out.block i (Array.getElem?_eq_some_iff.1 ho).1).trans ho)⟩,⟨rfl,AS'.out⟩,q1,Nat.le_trans BT3.out.size (Nat.le_of_eq q2.symm),fun i o hi ho _=>(q3 i (by have:=Z6.out;omega)).trans ((BT3.out.block i (Array.getElem?_eq_some_iff.1 ho).1).trans ho)⟩
   case done2 =>
    rintro W2 ⟨M,la,ln,lc,em,nm,lj⟩
    have bw2:=lj.bw BA2.out zz
    have y0:=(box_cell lj.cell 0).trans rfl
    obtain ⟨-,-,-,-,-,-,-,x7⟩:=eV (LW.out.below hgA bw2).cell
    obtain ⟨xs,OW,CT⟩:=LIB.step (B:=W6.heap.size) (c:=g + 1) (m:=M) (la:=la) (ln:=ln) (lc:=lc) hgA Z6.out ZS.out.symm (by omega) (by omega) LW.out bw2 (lj.marksB nm (by omega))
    have OWH:=Hd OW
    have CTH:=Hd CT
    have EM : Hid (bZ gE (pre ++ [x]) = some (L ++ [M])):=by show _ = _;rw [PG'.out,em]
    have zb1:=bw2.size
    have zg3 : g < W2.heap.size:=by omega
    have zg4 : gl < W2.heap.size:=by have:=lj.sz;omega
    clear bw2 OW CT lj em nm
    gi_wp2_with (gi_at_builtin;refine wpListIn_append_own_at _ rfl _ _ 51 rfl (A.heap.size + 3) 29 j0 (.slice none 0 0) 1 24 Tryz.underlying51 hj0 hzj hsj hbj rfl (by decide) _ L.length xs rfl OWH.out ⟨W2.heap.size,0,none⟩ 1 1 [.slice la ln lc] rfl rfl (cell_one_new _ _ _) (by intro u hu;simp at hu;subst hu;rfl) (by have:=NL.out;unfold maxLen;omega) (by have:=NL.out;omega) (by simp;omega) ?_;intro v5 w5 h5 hg5 hat5;obtain ⟨a5,c5,rfl⟩:=gP h5;obtain ⟨c7,f7,FN⟩:=CTH.out _ w5 h5 hg5 hat5;have FNH:=Hd FN;clear h5 hg5 hat5 FN x7)
    obtain ⟨r1,r2,va',vn',vc',r3⟩:=FNH.out _ rfl
    exact ⟨r1,r2,_,va',vn',vc',EM.out,rU.of,r3⟩
 case done =>
  rintro D W hD ⟨L,va,vn,vc,el,nl,li⟩ hK
  have LI':=Hd li
  have HK:=Hd hK
  have HD:=Hd hD
  have NO:=Hd nl
  have EQ' : Hid (cO T = some (.mk r f 0 [] L)):=by show _ = _;rw [EQ.out,el]
  have hvn:=li.count
  have NL : Hid (L.length ≤ 1000000001):=by
   have h1:=nF _ _ _ el
   have h3:=PL.out.1
   show _ ≤ _
   omega
  clear li hK hD el nl EQ
  have LVW:=Hd (LI'.out.lv ZA.out ZL.out)
  subst hvn
  have z16:=LI'.out.sz
  obtain ⟨f0,f1,f2,f3,f4,f5,f6,f7⟩:=fO LVW.out.c2
  obtain ⟨u0,u1,u2,u3,u4,u5,u6,u7⟩:=eV LVW.out.c2
  obtain ⟨y3,r3⟩:=row9 LVW.out.c3
  obtain ⟨y4,r4⟩:=row9 LVW.out.c4
  obtain ⟨x0,x1,x2,x3,x4,x5,x6,x7⟩:=eV LI'.out.cell
  have n0 : g ≠ w.heap.size:=by have:=ZL.out;omega
  have n1 : g ≠ w.heap.size + 1:=by have:=ZL.out;omega
  have n2 : g ≠ w.heap.size + 1 + 1:=by have:=ZL.out;omega
  gi_wp2
  gi_region
  gi_wp2
  have hpp : ∀ k,A.heap.size + 3 ≤ k → (fun k=>decide (k < w8.heap.size) || decide (k = g)) k = false:=fun k hk=>by have:=Z8.out;have:=ZS.out;have:=Z78.out;simp;omega
  have MK:=LI'.out.marks NO.out hpp
  have KF:=LI'.out.form (p:=fun k=>decide (k < w8.heap.size) || decide (k = g)) (by simp)
  have hD' : w.heap.size + 1 + 1 < D:=by have:=HD.out;have:=Z6.out;have:=ZS.out;have:=ZL.out;omega
  obtain ⟨e0,e1,e2,e3,e4⟩:=kC (p:=fun k=>decide (k < w8.heap.size) || decide (k = g)) (n:=.int .i64 L.length) (t:=.bool true) (a:=str r) (b:=.int .u8 f.op) (c:=str f.name) (d:=.slice fa fn fc) (e:=.slice fb fm fd) (f:=.int .i64 0) (x:=.slice none 0 0) (y:=.slice va L.length vc) LVW.out (fun k hk=>by have:=Z8.out;simp;omega) rfl (lV _)
  have hk2 : ∀ W1,W1 = kM W w.heap.size (str r) (.int .u8 f.op) (str f.name) (.slice fa fn fc) (.slice fb fm fd) (.int .i64 0) (.slice none 0 0) (.slice va L.length vc) (.int .i64 L.length) (.bool true) → W1.drew.heap[D]? = some (.deferred (some [])):=fun W1 h=>by
   rw [h,drew_heap,uA (by omega) (by omega) (by omega)];exact HK.out
  have K:=hk2 _ rfl
  have KD : ∀ U : World,U.heap[D]? = some (.deferred (some [])) → bY (hide (lo w) U) (hide (lo w) (U.putObj D (.deferred none))):=fun U hU=>hide_keepsD rfl hU
  have B3 : ∀ U : World,Below w.heap.size w U → Below w.heap.size w (U.putObj D (.deferred none)):=fun U b=>⟨b.os,b.tape,b.output,by simpa using b.size,fun i hi=>(World.putObj_heap_other (by omega)).trans (b.block i hi)⟩
  exact ⟨by simp,.inl ⟨_,_,rfl,run_takeDeferred K,_,mI _ _ _ _ _ _ _ _ _ _ _ _ _ _ _ rfl rfl rfl ((World.putObj_heap_other (by omega)).trans e0) ((World.putObj_heap_other (by omega)).trans e1) ((World.putObj_heap_other (by omega)).trans e2),eH.yes (q:=.mk r f 0 [] L) EQ'.out (B3 _ e3) rfl (((HA1.out.keep KF).keep e4).keep (KD _ K)) (((HA2.out.keep KF).keep e4).keep (KD _ K)) ((MK.keep e4).keep (KD _ K))⟩⟩
 case stop =>
  rintro D j pre W hD ⟨post,hpost⟩ ⟨⟨rfl,hno⟩,ls⟩ hK
  have EQ' : Hid (cO T = none):=by show _ = _;rw [EQ.out,← hpost,oH _ _ _ hno]
  have LS:=Hd ls
  have HK:=Hd hK
  have hd : w.heap.size + 1 + 1 < D:=by have:=Z6.out;have:=ZS.out;have:=ZL.out;omega
  clear ls hK hD hno hpost EQ
  gi_wp2
  have low : ∀ i,i ≤ w.heap.size + 1 + 1 → (W.putObj D (.deferred none)).heap[i]? = W.heap[i]?:=fun i hi=>World.putObj_heap_other (by omega)
  have BB : Below w.heap.size w (W.putObj D (.deferred none)):=⟨LS.out.lv.bw.os,LS.out.lv.bw.tape,LS.out.lv.bw.output,by have:=LS.out.lv.bw.size;simpa using this,fun i hi=>(low i (by omega)).trans (LS.out.lv.bw.block i hi)⟩
  exact ⟨by simp,.inl ⟨_,_,rfl,run_takeDeferred HK.out,_,mI _ _ _ _ _ _ _ _ _ _ _ _ _ _ _ rfl rfl rfl ((low _ (by omega)).trans LS.out.lv.c2) ((low _ (by omega)).trans LS.out.lv.c3) ((low _ (by omega)).trans LS.out.lv.c4),eH.no (r:=[]) (o:=0) (s':=[]) (fa:=none) (fb:=none) (sa:=none) (qa:=none) (fn:=0) (fc:=0) (fm:=0) (fd:=0) (sn:=0) (sc:=0) (qn:=0) (qc:=0) (lb:=0) (n:=0) EQ'.out BB⟩⟩
theorem line_any (T : Bs) (hT : T.length ≤ 1000000000) (w : World) (ht : Tabs w) : Calls Tryz.prog 120 #[str T] w (eH T w):=by
 obtain ⟨a,b,t,hc⟩ : ∃ a b t,Lib.cut T cs = (a,b,t):=⟨_,_,_,rfl⟩
 cases t with
 | false=>exact line_nocut T a b hT hc w ht
 | true =>
  cases hp : Lib.hasPrefix a eC with
  | true=>exact line_asm T a b hT hc hp w ht
  | false =>
   obtain ⟨f,fi,fcd,hcd,E⟩:=else_at hT hc hp
   rcases hcd with rfl | h
   ·by_cases hs : b = nS
    ·subst hs;exact line_holeB T a f fi E w ht
    ·cases hb : Lib.hasPrefix b byT with
     | false=>exact line_noby T a b f fi E hs hb w ht
     | true =>
      obtain ⟨r,J,u,hc2⟩ : ∃ r J u,Lib.cut (Lib.trimPrefix b byT) fJ = (r,J,u):=⟨_,_,_,rfl⟩
      cases u with
      | false=>exact line_bare T a b _ r J f fi E hs hb rfl hc2 w ht
      | true=>exact line_list T a b _ r J f fi E hs hb rfl hc2 w ht
   ·exact line_bad T a b f fi fcd E h w ht
end Go.Proofs.YtcandidgaegghaaGreatDoor
