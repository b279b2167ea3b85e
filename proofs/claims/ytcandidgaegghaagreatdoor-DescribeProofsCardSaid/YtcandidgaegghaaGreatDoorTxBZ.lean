/- describe.readLine at the line of a step with premises: the walk. Conditions: those of each statement; the program's tables (rows, MaxLen) lie as laid. -/
import Derived.Test.YtcandidgaegghaaGreatDoorStAZ
import Derived.Test.YtcandidgaegghaaGreatDoorProofBZ
import Derived.Test.YtcandidgaegghaaGreatDoorCpZ
import Derived.Lib.SliceRun
import Derived.Test.YtcandidgaegghaaGreatDoorRefDZ
import Derived.Test.YtcandidgaegghaaGreatDoorSameBZ
import Derived.Test.YtcandidgaegghaaGreatDoorRefEZ
import Derived.Test.YtcandidgaegghaaGreatDoorModBZ
set_option maxRecDepth 10000
set_option linter.unusedSimpArgs false
set_option linter.unusedVariables false
namespace Go.Proofs.YtcandidgaegghaaGreatDoor
open Go Go.RowKit Ly
attribute [local go_sem] Oper.semAt_some
open Go Go.RowKit Ly
open Go Go.RowKit Ly
def oneD : D → Prop
 | .val v=>v.oneCell' = true
 | .sl _ _ _=>True
theorem Pf.ds_one : ∀ p : Pf,∀ d ∈ p.ds,oneD d
 | .mk r (.mk o nm ts fs) l sub ms,d,hd=>by
  simp only [Pf.ds,Fm.ds,List.mem_cons,List.mem_append,List.mem_nil_iff,or_false] at hd
  rcases hd with rfl | ((rfl | rfl | rfl | rfl) | rfl | rfl | rfl) <;> first | trivial | rfl
theorem BI : ∀ l : List Pf,∀ d ∈ cX l,oneD d
 | [],d,hd=>by simp [cX] at hd
 | p :: ps,d,hd=>by
  simp only [cX,List.mem_append] at hd
  rcases hd with hd | hd
  ·exact Pf.ds_one p d hd
  ·exact BI ps d hd
theorem cells_one {W : World} {ds : List D} {xs : List Value} (h : aP W ds xs) (h1 : ∀ d ∈ ds,oneD d) : ∀ u ∈ xs,u.oneCell' = true:=fun u hu=>by
 obtain ⟨j,hj,e⟩:=List.mem_iff_getElem.1 hu
 have hd : ds[j]? = some (ds[j]'(by have:=h.1;omega)):=List.getElem?_eq_getElem _
 obtain ⟨v,hv,ha⟩:=h.2 j _ hd
 have e1 : xs[j]? = some u:=by rw [List.getElem?_eq_getElem hj,e]
 rw [e1] at hv;cases hv
 have o:=h1 _ (List.mem_of_getElem? hd)
 revert ha o
 cases ds[j]'(by have:=h.1;omega) with
 | val v=>intro ha o;have : u = v:=ha;rw [this];exact o
 | sl s n l=>intro ha _;obtain ⟨a,c,rfl,_⟩:=ha;rfl
set_option maxHeartbeats 2000000 in
theorem JB (a : Addr) (n c : Nat) (xs : List Value) (hl : xs.length = n * 8) (h1 : ∀ u ∈ xs,u.oneCell' = true) (hn : n ≤ 1000000) (w : World) (hc : ∀ j u,xs[j]? = some u → w.cell? (a.add j) = some u) :
  Calls Tryz.prog 121 #[.slice (some a) n c] w fun e w'=>∃ v',e = .returned v' ∧ w'.ownsRow w.heap.size 53 8 v' n xs ∧ Below w.heap.size w w':=by
 obtain ⟨i0,hi0,hz0,hs0,hb0⟩:=info_parts KZ
 have q50 : ∀ (w : World) (a : Option Addr) (n c n' c' : Nat),(binOp .eql 50 (.slice a n c) (.slice none n' c')).run Tryz.prog w = .ok (.bool a.isNone) w:=fun w a n c n' c'=>Lib.run_eql_slice_nil w _ _ a n c n' c' Tryz.underlying50
 have A:=Hd hc
 clear hc
 go_enter Tryz.func121,Tryz.ntmps121
 go_wp2_with (at_builtin;refine wpList_append_own_at _ rfl _ _ 50 rfl w.heap.size 53 i0 (.agg #[.string ⟨#[]⟩,.int .u8 0,.string ⟨#[]⟩,.slice none 0 0,.slice none 0 0,.int .i64 0,.slice none 0 0,.slice none 0 0]) 8 144 Tryz.underlying50 hi0 hz0 hs0 hb0 rfl (by decide) _ 0 [] rfl (World.ownsRow_made w #[] 0 (Nat.le_refl _) (Nat.zero_le _) rfl) a n c xs rfl hl (fun j u hj=>Lib.cell?_alloc_some _ (A.out j u hj)) h1 (by unfold maxLen;omega) (by omega) (by simp) ?_)
 intro v' w1 hown hgrow hnil hat
 go_wp2
 go_ret
 refine ⟨v',rfl,by simpa using hown, ?_⟩
 exact ((Below.refl _ w).alloc (Nat.le_refl _) _).grown hgrow (by simp) (by intro k hk;simp [Value.ownBlock] at hk;omega)
set_option maxHeartbeats 1000000 in
theorem clone_nil (n c : Nat) (w : World) : Calls Tryz.prog 121 #[.slice none n c] w fun e w'=>e = .returned (.slice none 0 0) ∧ w' = w:=by
 have q50 : ∀ (w : World) (a : Option Addr) (n c n' c' : Nat),(binOp .eql 50 (.slice a n c) (.slice none n' c')).run Tryz.prog w = .ok (.bool a.isNone) w:=fun w a n c n' c'=>Lib.run_eql_slice_nil w _ _ a n c n' c' Tryz.underlying50
 go_enter Tryz.func121,Tryz.ntmps121
 go_wp2
 go_ret
 exact ⟨rfl,rfl⟩
theorem row_fill6 {W : World} {g : Nat} {y z0 z1 z2 z3 z4 z5 z6 z7 : Value} (h : W.heap[g]? = some (.cells #[z0,z1,z2,z3,z4,z5,z6,z7] 53 (0,0))) :
  (W.setCell ⟨g,6,none⟩ y).heap[g]? = some (.cells #[z0,z1,z2,z3,z4,z5,y,z7] 53 (0,0)):=by
 have h0:=aC (o:=6) (u:=y) h
 simp only [List.setIfInBounds_toArray,List.set_cons_zero,List.set_cons_succ] at h0
 exact h0
def kI (W : World) (g : Nat) (a b c d e f x y : Value) : World :=
 (((((((W.setCell ⟨g,0,none⟩ a).setCell ⟨g,1,none⟩ b).setCell ⟨g,2,none⟩ c).setCell ⟨g,3,none⟩ d).setCell ⟨g,4,none⟩ e).setCell ⟨g,5,none⟩ f).setCell ⟨g,6,none⟩ x).setCell ⟨g,7,none⟩ y
theorem yH {W : World} {g i : Nat} {a b c d e f x y : Value} (h0 : i ≠ g) : (kI W g a b c d e f x y).heap[i]? = W.heap[i]?:=by
 unfold kI
 rw [Below.heap_setCell _ _ _ _ h0,Below.heap_setCell _ _ _ _ h0,Below.heap_setCell _ _ _ _ h0,Below.heap_setCell _ _ _ _ h0,Below.heap_setCell _ _ _ _ h0,Below.heap_setCell _ _ _ _ h0,Below.heap_setCell _ _ _ _ h0,Below.heap_setCell _ _ _ _ h0]
theorem proofW_rest {W : World} {g : Nat} {a b c d e f x y : Value} : (kI W g a b c d e f x y).os = W.os ∧ (kI W g a b c d e f x y).tape = W.tape ∧ (kI W g a b c d e f x y).output = W.output:=by
 unfold kI
 simp only [kQ,and_self]
theorem proofW_size {W : World} {g : Nat} {a b c d e f x y : Value} : (kI W g a b c d e f x y).heap.size = W.heap.size:=by simp [kI]
theorem proof_fin {w W W' : World} {a b c d e f x y z0 z1 z2 z3 z4 z5 z6 z7 : Value} (bw : Below w.heap.size w W) (hres : W.heap[w.heap.size]? = some (.cells #[z0,z1,z2,z3,z4,z5,z6,z7] 53 (0,0))) (hW : W' = kI W w.heap.size a b c d e f x y) :
  Below w.heap.size w W' ∧ W'.heap[w.heap.size]? = some (.cells #[a,b,c,d,e,f,x,y] 53 (0,0)) ∧ aR (hide (lo1 w) W) W':=by
 have low : ∀ i,i ≠ w.heap.size → W'.heap[i]? = W.heap[i]?:=fun i hi=>by rw [hW];exact yH hi
 have rest : W'.os = W.os ∧ W'.tape = W.tape ∧ W'.output = W.output:=by rw [hW];exact proofW_rest
 have size : W'.heap.size = W.heap.size:=by rw [hW];exact proofW_size
 have fill : W'.heap[w.heap.size]? = some (.cells #[a,b,c,d,e,f,x,y] 53 (0,0)):=by rw [hW];exact GD hres
 clear hW
 refine ⟨⟨rest.1.trans bw.os,rest.2.1.trans bw.tape,rest.2.2.trans bw.output,by rw [size];exact bw.size,fun i hi=>(low i (by omega)).trans (bw.block i hi)⟩,fill,fun p u hu=>?_⟩
 have h1:=tX hu
 rw [eZ h1] at hu
 simp only [lo1,decide_eq_false_iff_not] at h1
 rw [← hu]
 exact World.cell?_of_block (low _ (by omega))
end Go.Proofs.YtcandidgaegghaaGreatDoor
namespace Ly
theorem Tm.words_args' (t : Tm) : t.words = termWords t.name t.args:=by cases t;rfl
def teTo (n : Bs) (ts : List Tm) (i : Nat) : Bs:=aW (n :: aQ true (ts.take i))
theorem tR : ∀ (b : Bool) (l : List Tm) (t : Tm),aQ b (l ++ [t]) = aQ b l ++ ((if b && l.isEmpty then wOf else wAnd) :: t.words)
 | true,[],t=>by simp [aQ]
 | false,[],t=>by simp [aQ]
 | b,x :: l,t=>by
  have:=tR false l t
  simp only [List.cons_append,aQ,this]
  simp
theorem uJ (n : Bs) (ts : List Tm) : teTo n ts 0 = n:=by simp [teTo,aQ,aW]
theorem CJ {n : Bs} {ts : List Tm} {i : Nat} {T : Tm} (h : ts[i]? = some T) : teTo n ts (i + 1) = teTo n ts i ++ 32 :: ((if i = 0 then wOf else wAnd) ++ 32 :: aW (termWords T.name T.args)):=by
 have hi:=(List.getElem?_eq_some_iff.1 h).1
 have e : ts.take (i + 1) = ts.take i ++ [T]:=by rw [List.take_add_one,h];rfl
 have e2 : (true && (ts.take i).isEmpty) = decide (i = 0):=by
  rw [Bool.true_and,Bool.eq_iff_iff,List.isEmpty_iff_length_eq_zero,List.length_take,decide_eq_true_iff]
  omega
 unfold teTo
 rw [e,tR,e2,← List.cons_append,gC _ _ (by simp) (by simp),Tm.words_args']
 have tw : termWords T.name T.args ≠ []:=by simp [termWords]
 by_cases hi : i = 0 <;> simp [hi,gK _ _ tw]
theorem teTo_end (n : Bs) (ts : List Tm) : aW (termWords n ts) = if ts.length = 0 then n else teTo n ts ts.length ++ 32 :: cB:=by
 unfold termWords teTo
 rw [List.take_of_length_le (Nat.le_refl _)]
 cases ts with
 | nil=>simp [aQ,aW]
 | cons t ts =>
  rw [if_neg (by simp),if_neg (by simp)]
  exact gC (n :: aQ true (t :: ts)) [cB] (by simp) (by simp)
theorem oR (a b : List Bs) : (aW a).length ≤ (aW (a ++ b)).length:=by
 by_cases ha : a = []
 ·subst ha;simp [aW]
 by_cases hb : b = []
 ·subst hb;simp
 rw [gC _ _ ha hb];simp
theorem EC (n : Bs) (ts : List Tm) (i : Nat) : (teTo n ts i).length ≤ (aW (termWords n ts)).length:=by
 have e : ∃ r,termWords n ts = (n :: aQ true (ts.take i)) ++ r:=by
  have : ∀ (b : Bool) (l m : List Tm),∃ r,aQ b (l ++ m) = aQ b l ++ r:=by
   intro b l
   induction l generalizing b with
   | nil=>intro m;exact ⟨_,rfl⟩
   | cons x l ih =>
    intro m
    obtain ⟨r,hr⟩:=ih false m
    exact ⟨r,by simp [aQ,hr]⟩
  obtain ⟨r,hr⟩:=this true (ts.take i) (ts.drop i)
  rw [List.take_append_drop] at hr
  exact ⟨r ++ (if ts.isEmpty then [] else [cB]),by simp [termWords,hr]⟩
 obtain ⟨r,hr⟩:=e
 rw [hr]
 exact oR _ _
def txTo (op : Int) (n : Bs) (fs : List Fm) (i : Nat) : Bs:=aW (aM op n :: bT op true (fs.take i))
theorem txTo_zero (op : Int) (n : Bs) (fs : List Fm) : txTo op n fs 0 = aM op n:=by simp [txTo,bT,aW]
theorem GR {op : Int} {n : Bs} {fs : List Fm} {g : Fm} (h : fs[0]? = some g) : txTo op n fs 1 = txTo op n fs 0 ++ 32 :: g.text:=by
 obtain ⟨r,rfl⟩ : ∃ r,fs = g :: r:=by
  cases fs with
  | nil=>simp at h
  | cons x r=>simp at h;subst h;exact ⟨r,rfl⟩
 simp only [txTo,List.take_succ_cons,List.take_zero,bT,if_true,List.nil_append,List.append_nil]
 rw [gK _ _ (Fm.words_ne g)]
 rfl
theorem GS {op : Int} {n : Bs} {fs : List Fm} {g : Fm} (h : fs[1]? = some g) : txTo op n fs 2 = txTo op n fs 1 ++ 32 :: (aG op ++ 32 :: g.text):=by
 obtain ⟨a,r,rfl⟩ : ∃ a r,fs = a :: g :: r:=by
  match fs,h with
  | [],h=>simp at h
  | [x],h=>simp at h
  | x :: y :: r,h=>simp at h;subst h;exact ⟨x,r,rfl⟩
 simp only [txTo,List.take_succ_cons,List.take_zero,bT,if_true,List.nil_append,List.append_nil,Bool.false_eq_true,if_false]
 rw [← List.cons_append,gC _ _ (by simp) (by simp),List.singleton_append,gK _ _ (Fm.words_ne g)]
 rfl
theorem GQ {op : Int} {n : Bs} {ts : List Tm} {fs : List Fm} (h1 : op ≠ 1) (h2 : op ≠ 2) : (Fm.mk op n ts fs).text = txTo op n fs fs.length:=by
 unfold txTo Fm.text
 rw [List.take_of_length_le (Nat.le_refl _)]
 simp only [Fm.words,if_neg h1,if_neg h2]
theorem txTo_le {op : Int} {n : Bs} {ts : List Tm} {fs : List Fm} (h1 : op ≠ 1) (h2 : op ≠ 2) (i : Nat) : (txTo op n fs i).length ≤ (Fm.mk op n ts fs).text.length:=by
 rw [GQ h1 h2]
 have : ∀ (b : Bool) (l m : List Fm),∃ r,bT op b (l ++ m) = bT op b l ++ r:=by
  intro b l
  induction l generalizing b with
  | nil=>intro m;exact ⟨_,rfl⟩
  | cons x l ih =>
   intro m
   obtain ⟨r,hr⟩:=ih false m
   exact ⟨r,by simp [bT,hr]⟩
 obtain ⟨r,hr⟩:=this true (fs.take i) (fs.drop i)
 rw [List.take_append_drop] at hr
 unfold txTo
 rw [List.take_of_length_le (Nat.le_refl fs.length),hr,← List.cons_append]
 exact oR _ _
theorem te_part_le {n : Bs} {ts : List Tm} {i : Nat} {T : Tm} (h : ts[i]? = some T) : (aW (termWords T.name T.args)).length ≤ (aW (termWords n ts)).length:=by
 have h1:=EC n ts (i + 1)
 rw [CJ h] at h1
 simp at h1
 omega
end Ly
namespace Go.Proofs.YtcandidgaegghaaGreatDoor
open Go Go.RowKit Ly
set_option maxHeartbeats 1600000
def TeC (n : Bs) (ts : List Tm) : Prop:=∀ (a : Option Addr) (k c : Nat) (w : World),bI w ts (.slice a k c) → (aW (termWords n ts)).length ≤ 1000000 → Calls Tryz.prog 212 #[str n,.slice a k c] w fun e w'=>e = .returned (str (aW (termWords n ts))) ∧ ∃ m,w' = w.drewN m
theorem te_step (n : Bs) (ts : List Tm) (hh : ∀ t ∈ ts,TeC t.name t.args) : TeC n ts:=by
 intro a k c w hx hl
 have hk:=hx.len
 have hlk : k ≤ 9223372036854775807:=by have:=le63 hk.2.2;omega
 have hn : n.length ≤ 1000000:=by have:=EC n ts 0;rw [uJ] at this;omega
 have L1:=Hd hk.1
 have H:=Hd hh
 have HX:=Hd hx
 have HL:=Hd hl
 have HLE : Hid (∀ i,(teTo n ts i).length ≤ 1000000):=fun i=>Nat.le_trans (EC n ts i) hl
 clear hk hh hx hl
 go_enter Tryz.func212,Tryz.ntmps212
 go_wp2_with fail
 go_loopw [5,6] (fun u i wr=>∃ (j m : Nat) (U : Bs),j ≤ k ∧ i = .int .i64 j ∧ u = str U ∧ wr = w.drewN m ∧ U.length ≤ 1000000 ∧ Hid (U = teTo n ts j)) (fun _ i _=>k - (intOf i).toNat)
 case atStart=>exact ⟨0,0,n,Nat.zero_le _,rfl,rfl,rfl,hn,(uJ n ts).symm⟩
 case round =>
  obtain ⟨j,m,U,hj,rfl,rfl,rfl,hU,hs⟩:=hrel
  clear hn
  by_cases hlt : j < k
  ·obtain ⟨T,hT⟩:=aF (l:=ts) (j:=j) (by rw [← L1.out];exact hlt)
   obtain ⟨bb,off,rfl,hc⟩:=HX.out.get (aJ hT)
   obtain ⟨y0,y1,y2,hy⟩:=hc j _ hT
   have c0:=hy.c0;have c1:=hy.c1;have c2:=hy.c2
   have hX : (aW (termWords T.name T.args)).length ≤ 1000000:=Nat.le_trans (te_part_le hT) HL.out
   have R : Hid (∀ p,Calls Tryz.prog 212 #[str T.name,.slice y0 y1 y2] (w.drewN (m + p)) fun e w''=>e = .returned (str (aW (termWords T.name T.args))) ∧ ∃ q,w'' = w.drewN (m + q)):=fun p =>
    (H.out T (List.mem_of_getElem? hT) _ _ _ _ (hy.at_.keep (w':=w.drewN (m + p)) (fun _ _ h=>h)) hX).mono fun e w2 ⟨h1,q,h2⟩=>⟨h1,p + q,by rw [h2,World.drewN_drewN,Nat.add_assoc]⟩
   have TK:=Hd (CJ (n:=n) hT)
   generalize aW (termWords T.name T.args) = X at R TK hX
   clear hc hy hT
   by_cases h0 : j = 0
   ·subst h0
    go_wp2_with fail
    go_quiet (first | (go_at_call 212;exact R.out _))
    go_wp2_with fail
    go_roundw
    case rel =>
     refine ⟨1,_,teTo n ts 1,by omega,by go_num, ?_,rfl,HLE.out 1,rfl⟩
     have e:=TK.out
     rw [e,← hs.out]
     simp [bF,wOf]
    case measure=>simp [intOf];omega
   ·go_wp2_with fail
    go_quiet (first | (go_at_call 212;exact R.out _))
    go_wp2_with fail
    go_roundw
    case rel =>
     refine ⟨j + 1,_,teTo n ts (j + 1),by omega,by go_num, ?_,rfl,HLE.out (j + 1),rfl⟩
     have e:=TK.out
     rw [e,← hs.out,if_neg h0]
     simp [bF,wAnd]
    case measure=>simp [intOf];omega
  ·have EQ:=Hd (teTo_end n ts)
   have hjk : j = k:=by omega
   by_cases h0 : k = 0
   ·subst h0
    go_wp2_with fail
    go_ret
    refine ⟨?_,_,rfl⟩
    rw [EQ.out,hs.out,if_pos L1.out.symm,hjk,uJ]
    rfl
   ·go_wp2_with fail
    go_ret
    refine ⟨?_,_,rfl⟩
    rw [EQ.out,hs.out,if_neg (by rw [← L1.out];exact h0),← L1.out,hjk]
    simp [bF,cB]
mutual
theorem te_c : ∀ t : Tm,TeC t.name t.args
 | .mk _ n ts=>te_step n ts (MC ts)
theorem MC : ∀ l : List Tm,∀ t ∈ l,TeC t.name t.args
 | [],_,h=>by cases h
 | x :: xs,t,h=>by
  rcases List.mem_cons.1 h with e | e
  ·rw [e];exact te_c x
  ·exact MC xs t e
end
theorem te_any (n : Bs) (ts : List Tm) : TeC n ts:=te_c (.mk true n ts)
def nZ (op : Int) (n : Bs) : Bs:=if op = 1 ∨ op = 2 then cF else aM op n
def lB (op : Int) : Bs:=if op = 1 ∨ op = 2 then [] else aG op
theorem wd_c (op : Int) (h : 1 ≤ op ∧ op ≤ 14) (n : Bs) (hn : n.length ≤ 1000000) (a : Option Addr) (k c : Nat) (a' : Option Addr) (m d : Nat) (w : World) :
  Calls Tryz.prog 213 #[.agg #[.int .u8 op,str n,.slice a k c,.slice a' m d]] w (Rt (.tuple #[str (nZ op n),str (lB op)]) w):=by
 have HB : Hid (Below w.heap.size w (w.alloc (.cells #[.int .u8 op,str n,.slice a k c,.slice a' m d] 25))):=bnew
 rcases (show op = 1 ∨ op = 2 ∨ op = 3 ∨ op = 4 ∨ op = 5 ∨ op = 6 ∨ op = 7 ∨ op = 8 ∨ op = 9 ∨ op = 10 ∨ op = 11 ∨ op = 12 ∨ op = 13 ∨ op = 14 by omega) with rfl | rfl | rfl | rfl | rfl | rfl | rfl | rfl | rfl | rfl | rfl | rfl | rfl | rfl
 all_goals
  clear h
  go_enter Tryz.func213,Tryz.ntmps213
  go_wp2_with fail
  go_ret2
  refine ⟨?_,HB.out⟩
  simp [bF,nZ,lB,aM,aG,cF,wNot,wNec,wPos,iZ,eO,wFor,wAll,eA,nA,hH,wIf,wAs,jQ,wAnd,wOr,zG,wSo,mK]
def FmT (f : Fm) : Prop:=∀ (w0 w : World) (x : Value),bV w0 f x → Below w0.heap.size w0 w → f.ok = true → f.text.length ≤ 1000000 → Calls Tryz.prog 131 #[x] w (Rt (str f.text) w)
theorem tx_part {op : Int} {n : Bs} {fs : List Fm} {i : Nat} {T : Fm} (h : fs[i]? = some T) (hi : i ≤ 1) : T.text.length ≤ (txTo op n fs (i + 1)).length:=by
 rcases (show i = 0 ∨ i = 1 by omega) with rfl | rfl
 ·rw [GR h];simp;omega
 ·rw [GS h];simp;omega
theorem tx_step (op : Int) (n : Bs) (ts : List Tm) (fs : List Fm) (hh : ∀ f ∈ fs,FmT f) : FmT (.mk op n ts fs):=by
 intro w0 w x hx hw hok hl
 obtain ⟨a,k,c,a',m,d,rfl,hx,hx2⟩:=hx
 simp only [Fm.op,Fm.name,Fm.args,Fm.sub] at *
 obtain ⟨-,-,hm1,ho1,ho2,-,hsub⟩:=kE hok
 have hnm:=DU hok
 have har : fs.length ≤ 2:=by
  simp only [Fm.ok,Bool.and_eq_true,decide_eq_true_eq] at hok
  exact hok.1.1.1.2
 have hm:=hx2.len
 have hlm : m ≤ 9223372036854775807:=by have:=le63 hm.2.2;omega
 have L2:=Hd hm.1
 have H:=Hd hh
 have HX:=Hd hx
 have HX2:=Hd hx2
 have HW:=Hd hw
 have HOK:=Hd (tV hsub)
 have hn : n.length ≤ 1000000:=by omega
 have hm2 : m ≤ 2:=by omega
 have NEW:=Hd (heap_alloc_new w (.cells #[.int .u8 op,str n,.slice a k c,.slice a' m d] 25))
 have HB : Hid (Below w.heap.size w (w.alloc (.cells #[.int .u8 op,str n,.slice a k c,.slice a' m d] 25))):=bnew
 by_cases o1 : op = 1
 ·subst o1
  have et : (Fm.mk 1 n ts fs).text = aW (termWords n ts):=by simp [Fm.text,Fm.words]
  have R : Hid (∀ W,Below w.heap.size w W → Calls Tryz.prog 212 #[str n,.slice a k c] W fun e w''=>e = .returned (str (aW (termWords n ts))) ∧ ∃ q,w'' = W.drewN q):=fun W b =>
   te_any n ts _ _ _ W (hx.keep (aA (aB hw b))) (by rw [← et];exact hl)
  rw [et]
  clear hm hh hx hx2 hw hok hl hsub ho1 ho2
  go_enter Tryz.func131,Tryz.ntmps131
  go_wp2_with (go_at_call 212;refine (R.out _ HB.out).mono ?_;rintro e w1 ⟨rfl,q,rfl⟩)
  go_ret
  exact ⟨rfl,HB.out.trans ⟨rfl,rfl,rfl,Nat.le_refl _,fun _ _=>rfl⟩⟩
 ·have RWD : Hid (∀ W,Calls Tryz.prog 213 #[.agg #[.int .u8 op,str n,.slice a k c,.slice a' m d]] W (Rt (.tuple #[str (nZ op n),str (lB op)]) W)):=fun W=>wd_c op (by omega) n hn a k c a' m d W
  by_cases o2 : op = 2
  ·subst o2
   have et : (Fm.mk 2 n ts fs).text = cF:=by simp [Fm.text,Fm.words,aW]
   have hm0 : m = 0:=by
    have : arity 2 = 0:=by decide
    omega
   subst hm0
   rw [et]
   clear hm hh hx hx2 hw hok hl hsub ho1 ho2
   go_enter Tryz.func131,Tryz.ntmps131
   go_wp2_with (go_at_call 213;refine (RWD.out _).mono ?_;rintro e w1 ⟨rfl,b1⟩;have B1:=Hd (aB HB.out b1);have N1:=Hd (kc b1 NEW.out);clear b1;obtain ⟨x0,x1,x2,x3,-,-,-,-⟩:=row25' N1.out)
   go_loopw [3,5] (fun u i wr=>u = str cF ∧ i = .int .i64 0 ∧ Hid (Below w.heap.size w wr ∧ wr.heap[w.heap.size]? = some (.cells #[.int .u8 2,str n,.slice a k c,.slice a' 0 d] 25 (0,0)))) (fun _ i _=>0)
   case atStart=>exact ⟨rfl,rfl,B1.out,N1.out⟩
   case round =>
    obtain ⟨rfl,rfl,hs⟩:=hrel
    clear x0 x1 x2 x3
    obtain ⟨x0,x1,x2,x3,-,-,-,-⟩:=row25' hs.out.2
    go_wp2_with fail
    go_ret
    exact ⟨rfl,hs.out.1⟩
  ·have HLE : Hid (∀ i,(txTo op n fs i).length ≤ 1000000):=fun i=>Nat.le_trans (txTo_le (ts:=ts) o1 o2 i) hl
   have ET : Hid ((Fm.mk op n ts fs).text = txTo op n fs fs.length):=GQ o1 o2
   have hF : Hid (nZ op n = txTo op n fs 0):=by show _ = _;rw [txTo_zero,nZ,if_neg (by omega)]
   have hFl : (nZ op n).length ≤ 1000000:=by rw [hF.out];exact HLE.out 0
   have hBt : lB op = aG op:=if_neg (by omega)
   have hBl : (lB op).length ≤ 1000000:=by rw [hBt];have:=(tJ op n).2;omega
   have HBT:=Hd hBt
   generalize nZ op n = F at RWD hF hFl
   generalize lB op = B at RWD HBT hBl
   clear hm hh hx hx2 hw hok hl hsub ho1 ho2 o2 hn hBt
   go_enter Tryz.func131,Tryz.ntmps131
   go_wp2_with (go_at_call 213;refine (RWD.out _).mono ?_;rintro e w1 ⟨rfl,b1⟩;have B1:=Hd (aB HB.out b1);have N1:=Hd (kc b1 NEW.out);clear b1;obtain ⟨x0,x1,x2,x3,-,-,-,-⟩:=row25' N1.out)
   clear x0 x1 x2 x3
   go_loopw [3,5] (fun u i wr=>∃ (j : Nat) (U : Bs),j ≤ m ∧ i = .int .i64 j ∧ u = str U ∧ U.length ≤ 1000000 ∧ Hid (U = txTo op n fs j ∧ Below w.heap.size w wr ∧ wr.heap[w.heap.size]? = some (.cells #[.int .u8 op,str n,.slice a k c,.slice a' m d] 25 (0,0)))) (fun _ i _=>m - (intOf i).toNat)
   case atStart=>exact ⟨0,F,Nat.zero_le _,rfl,rfl,hFl,hF.out,B1.out,N1.out⟩
   case round =>
    clear B1 N1 hF hFl
    obtain ⟨j,U,hj,rfl,rfl,hU,hs⟩:=hrel
    obtain ⟨x0,x1,x2,x3,-,-,-,-⟩:=row25' hs.out.2.2
    by_cases hlt : j < m
    ·obtain ⟨T,hT⟩:=aF (l:=fs) (j:=j) (by rw [← L2.out];exact hlt)
     obtain ⟨bb,off,rfl,hc⟩:=HX2.out.get (aJ hT)
     obtain ⟨y0,y1,y2,y3,y4,y5,hy⟩:=hc j _ hT
     have hK:=aA (aB HW.out hs.out.2.1)
     have c0:=hK _ _ hy.c0;have c1:=hK _ _ hy.c1;have c2:=hK _ _ hy.c2;have c3:=hK _ _ hy.c3
     have X : Hid (bV w0 T (.agg #[.int .u8 T.op,str T.name,.slice y0 y1 y2,.slice y3 y4 y5])):=⟨_,_,_,_,_,_,rfl,hy.at_,hy.at'⟩
     have HM:=Hd (List.mem_of_getElem? hT)
     have HT:=Hd hT
     have hTl : T.text.length ≤ 1000000:=Nat.le_trans (tx_part hT (by omega)) (HLE.out (j + 1))
     have R : Hid (∀ W,Below w0.heap.size w0 W → Calls Tryz.prog 131 #[.agg #[.int .u8 T.op,str T.name,.slice y0 y1 y2,.slice y3 y4 y5]] W (Rt (str T.text) W)):=fun W b=>H.out T HM.out w0 W _ X.out b (HOK.out T HM.out) hTl
     obtain ⟨V,hV⟩ : ∃ V,T.text = V:=⟨_,rfl⟩
     have HV:=Hd hV
     rw [hV] at R hTl
     clear hc hy hT hK hV
     rcases (show j = 0 ∨ j = 1 by omega) with rfl | rfl
     ·simp only [Nat.zero_mul,Nat.add_zero] at c0 c1 c2 c3
      go_wp2_with (go_at_call 131;refine (R.out _ (aB HW.out hs.out.2.1)).mono ?_;rintro e w3 ⟨rfl,b3⟩)
      go_roundw
      case rel =>
       refine ⟨1,txTo op n fs 1,by omega,by go_num, ?_,HLE.out 1,rfl,aB hs.out.2.1 b3,kc b3 hs.out.2.2⟩
       rw [GR HT.out,← hs.out.1,HV.out]
       simp [bF]
      case measure=>simp [intOf];omega
     ·go_wp2_with (go_at_call 131;refine (R.out _ (aB HW.out hs.out.2.1)).mono ?_;rintro e w3 ⟨rfl,b3⟩)
      go_roundw
      case rel =>
       refine ⟨2,txTo op n fs 2,by omega,by go_num, ?_,HLE.out 2,rfl,aB hs.out.2.1 b3,kc b3 hs.out.2.2⟩
       rw [GS HT.out,← hs.out.1,HV.out,← HBT.out]
       simp [bF]
      case measure=>simp [intOf];omega
    ·go_wp2_with fail
     go_ret
     refine ⟨?_,hs.out.2.1⟩
     have hjm : j = m:=by omega
     rw [ET.out,← L2.out,← hjm,← hs.out.1]
     rfl
mutual
theorem BP : ∀ t : Fm,FmT t
 | .mk o n ts fs=>tx_step o n ts fs (yN fs)
theorem yN : ∀ l : List Fm,∀ t ∈ l,FmT t
 | [],_,h=>by cases h
 | x :: xs,t,h=>by
  rcases List.mem_cons.1 h with e | e
  ·rw [e];exact BP x
  ·exact yN xs t e
end
open Go Go.RowKit Ly
set_option maxHeartbeats 1600000
def dTo (m : Nat) (O : Bs) : Bs:=if m = 0 then O else Lib.decDigits m ++ O
theorem dTo_step (m : Nat) (O : Bs) : Lib.decDigits m ++ O = dTo (m / 10) (UInt8.ofNat (48 + m % 10) :: O):=by
 unfold dTo
 by_cases h : m < 10
 ·rw [Lib.decDigits_one h,if_pos (by omega),show m % 10 = m by omega];rfl
 ·rw [Lib.decDigits,dif_neg h,if_neg (by omega)];simp
theorem enc0 : Utf8.encode 48 = ⟨#[48]⟩:=rfl
theorem enc1 : Utf8.encode 49 = ⟨#[49]⟩:=rfl
theorem enc2 : Utf8.encode 50 = ⟨#[50]⟩:=rfl
theorem enc3 : Utf8.encode 51 = ⟨#[51]⟩:=rfl
theorem enc4 : Utf8.encode 52 = ⟨#[52]⟩:=rfl
theorem enc5 : Utf8.encode 53 = ⟨#[53]⟩:=rfl
theorem enc6 : Utf8.encode 54 = ⟨#[54]⟩:=rfl
theorem enc7 : Utf8.encode 55 = ⟨#[55]⟩:=rfl
theorem enc8 : Utf8.encode 56 = ⟨#[56]⟩:=rfl
theorem enc9 : Utf8.encode 57 = ⟨#[57]⟩:=rfl
def strZ : Value → Nat
 | .string b=>if b.data.size = 0 then 1 else 0
 | _=>0
theorem digits_c (N : Nat) (hN : N ≤ 1000000) (w : World) : Calls Tryz.prog 73 #[.int .i64 N] w fun e w'=>e = .returned (str (Lib.decDigits N)) ∧ w = w':=by
 go_enter Tryz.func73,Tryz.ntmps73
 go_wp2_with fail
 go_loopw [0,3] (fun n u wr=>∃ (m : Nat) (O : Bs),n = .int .i64 m ∧ u = str O ∧ m ≤ N ∧ O.length + m ≤ 1000100 ∧ w = wr ∧ Hid ((O = [] ∧ m = N) ∨ (O ≠ [] ∧ dTo m O = Lib.decDigits N))) (fun n u _=>(intOf n).toNat + strZ u)
 case atStart=>exact ⟨N,[],rfl,rfl,Nat.le_refl _,by simp;omega,rfl,.inl ⟨rfl,rfl⟩⟩
 case round =>
  obtain ⟨m,O,rfl,rfl,hm,hO,rfl,hs⟩:=hrel
  by_cases hgo : O = [] ∨ 0 < m
  ·have ST : Hid (dTo (m / 10) (UInt8.ofNat (48 + m % 10) :: O) = Lib.decDigits N):=by
    show _ = _
    rw [← dTo_step]
    rcases hs.out with ⟨rfl,rfl⟩ | ⟨h1,h2⟩
    ·simp
    ·rcases hgo with h | h
     ·exact absurd h h1
     ·rw [← h2,dTo,if_neg (by omega)]
   have hd : (m : Int).tdiv 10 = ((m / 10 : Nat) : Int):=by rw [Int.tdiv_eq_ediv_of_nonneg (by omega)];omega
   have hr:=Nat.mod_lt m (show 0 < 10 by decide)
   have hmod : (m : Int).tmod 10 = ((m % 10 : Nat) : Int):=by rw [Int.tmod_eq_emod_of_nonneg (by omega)];omega
   generalize hq : m / 10 = q at *
   generalize hrr : m % 10 = r at *
   have HQ:=Hd hq
   have HR:=Hd hrr
   have q1 : q ≤ 1000000:=by omega
   clear hq hrr
   rcases hgo with rfl | hpos
   ·rcases (show r = 0 ∨ r = 1 ∨ r = 2 ∨ r = 3 ∨ r = 4 ∨ r = 5 ∨ r = 6 ∨ r = 7 ∨ r = 8 ∨ r = 9 by omega) with rfl | rfl | rfl | rfl | rfl | rfl | rfl | rfl | rfl | rfl
    all_goals
     go_wp2_with fail
     go_roundw
     case rel =>
      refine ⟨q,_,rfl, ?_,by have:=HQ.out;omega, ?_,trivial,.inr ⟨?_,ST.out⟩⟩
      ·simp [enc0,enc1,enc2,enc3,enc4,enc5,enc6,enc7,enc8,enc9,bF]
      ·have:=HQ.out;simp;omega
      ·simp
     case measure=>have:=HQ.out;simp [intOf,strZ,ByteArray.data_append,enc0,enc1,enc2,enc3,enc4,enc5,enc6,enc7,enc8,enc9];try omega
   ·have h1 : (0 : Int) < m:=by omega
    rcases (show r = 0 ∨ r = 1 ∨ r = 2 ∨ r = 3 ∨ r = 4 ∨ r = 5 ∨ r = 6 ∨ r = 7 ∨ r = 8 ∨ r = 9 by omega) with rfl | rfl | rfl | rfl | rfl | rfl | rfl | rfl | rfl | rfl
    all_goals
     cases O
     all_goals
      simp only [List.length_cons,List.length_nil] at hO
      have s0 : (Utf8.encode 48).size = 1:=rfl
      have s1 : (Utf8.encode 49).size = 1:=rfl
      have s2 : (Utf8.encode 50).size = 1:=rfl
      have s3 : (Utf8.encode 51).size = 1:=rfl
      have s4 : (Utf8.encode 52).size = 1:=rfl
      have s5 : (Utf8.encode 53).size = 1:=rfl
      have s6 : (Utf8.encode 54).size = 1:=rfl
      have s7 : (Utf8.encode 55).size = 1:=rfl
      have s8 : (Utf8.encode 56).size = 1:=rfl
      have s9 : (Utf8.encode 57).size = 1:=rfl
      go_wp2_with fail
      go_roundw
      case rel =>
       refine ⟨q,_,rfl, ?_,by have:=HQ.out;omega, ?_,trivial,.inr ⟨?_,ST.out⟩⟩
       ·simp [enc0,enc1,enc2,enc3,enc4,enc5,enc6,enc7,enc8,enc9,bF]
       ·have:=HQ.out;simp at hO ⊢;omega
       ·simp
      case measure=>have:=HQ.out;simp [intOf,strZ,ByteArray.data_append,enc0,enc1,enc2,enc3,enc4,enc5,enc6,enc7,enc8,enc9];try omega
  ·have hm0 : m = 0:=by omega
   subst hm0
   have hO : O ≠ []:=by intro h;exact hgo (.inl h)
   obtain ⟨c,r,rfl⟩:=List.exists_cons_of_ne_nil hO
   go_wp2_with fail
   go_ret
   refine ⟨?_,rfl⟩
   rcases hs.out with ⟨h,_⟩ | ⟨_,h⟩
   ·cases h
   ·rw [← h];rfl
end Go.Proofs.YtcandidgaegghaaGreatDoor
