/- lyceumkit.KeptProof, KeptProofs: true at what has been lent and is as it was. Printed by gen/genlpe.py. Conditions: none but those of each statement. -/
import Derived.Test.YtcandidgaegghaaGreatDoorCpZ
import Derived.Test.YtcandidgaegghaaGreatDoorMdTZ
import Derived.Test.YtcandidgaegghaaGreatDoorModBZ
import Derived.Outline
import Derived.Test.YtcandidgaegghaaGreatDoorLpCZ
import Derived.Deep.RegionLaw
set_option maxRecDepth 10000
set_option linter.unusedSimpArgs false
set_option linter.unusedVariables false
namespace Go.Proofs.YtcandidgaegghaaGreatDoor
open Go Go.RowKit Go.Sort Ly
set_option maxHeartbeats 4000000
theorem cell_ltq {w : World} {a : Addr} {v : Value} (h : w.cell? a = some v) : a.block < w.heap.size:=by
 rcases Nat.lt_or_ge a.block w.heap.size with h1 | h1
 ·exact h1
 ·simp [World.cell?,Array.getElem?_eq_none h1] at h
theorem kq_of (t : Pf) (h : KqS t.sub) : KqT t:=by
 intro cs y w hu hy
 obtain ⟨av,uv,qv,sv,rfl,k1,k2,k3,k4⟩:=rV.1 hu
 obtain ⟨a,k,c,a',m,d,s,sn,sc,q,qn,qc,rfl,y1,y2,y3,y4⟩:=id hy
 obtain ⟨b1,cap1,zs1,rfl,-⟩:=id k1
 obtain ⟨b2,cap2,zs2,rfl,-⟩:=id k2
 obtain ⟨b4,cap4,zs4,rfl,-⟩:=id k4
 obtain ⟨b3,cap3,zs3,ms3,rfl,m1,m2,m3,m4,m5⟩:=id k3
 have hq:=y4.len
 have R : Hid (∀ W,Below w.heap.size w W → Calls Tryz.prog 27 #[.agg #[str t.rule,.int .u8 t.form.op,str t.form.name,.slice (some ⟨b1,0,none⟩) t.form.args.length cap1,.slice (some ⟨b2,0,none⟩) t.form.sub.length cap2,.int .i64 t.label,.slice (some ⟨b4,0,none⟩) t.sub.length cap4,.slice (some ⟨b3,0,none⟩) t.marks.length cap3],.agg #[str t.rule,.int .u8 t.form.op,str t.form.name,.slice a k c,.slice a' m d,.int .i64 t.label,.slice s sn sc,.slice q qn qc]] W (Rt (.bool true) W)):=fun W hW=>by
  have:=lU t t (.agg #[str t.rule,.int .u8 t.form.op,str t.form.name,.slice (some ⟨b1,0,none⟩) t.form.args.length cap1,.slice (some ⟨b2,0,none⟩) t.form.sub.length cap2,.int .i64 t.label,.slice (some ⟨b4,0,none⟩) t.sub.length cap4,.slice (some ⟨b3,0,none⟩) t.marks.length cap3]) (.agg #[str t.rule,.int .u8 t.form.op,str t.form.name,.slice a k c,.slice a' m d,.int .i64 t.label,.slice s sn sc,.slice q qn qc]) W ⟨_,_,_,_,_,_,_,_,_,_,_,_,rfl,k1.at.keep (aA hW),k2.at.keep (aA hW),k4.at.keep (aA hW),k3.at.keep (aA hW)⟩ (hy.keep (aA hW))
  rwa [nQ] at this
 have R2 : Hid (∀ W,Below w.heap.size w W → Calls Tryz.prog 51 #[.agg #[.int .u8 t.form.op,str t.form.name,.slice (some ⟨b1,0,none⟩) t.form.args.length cap1,.slice (some ⟨b2,0,none⟩) t.form.sub.length cap2],.agg #[.int .u8 t.form.op,str t.form.name,.slice a k c,.slice a' m d]] W (Rt (.bool true) W)):=fun W hW =>
  xL t.form _ _ _ W (k1.keep (aA hW)) (k2.keep (aA hW)) ⟨_,_,_,_,_,_,rfl,y1.keep (aA hW),y2.keep (aA hW)⟩
 have R3 : Hid (∀ W,Below w.heap.size w W → Calls Tryz.prog 183 #[.slice (some ⟨b4,0,none⟩) t.sub.length cap4,.slice s sn sc] W (Rt (.bool true) W)):=fun W hW =>
  h _ s sn sc W (k4.keep (aA hW)) (y3.keep (aA hW))
 have L1:=Hd hq.1
 have HX:=Hd y4
 have HC:=Hd m4
 have HM:=Hd m5
 have HR:=Hd m3
 have HL : Hid (zs3.length = t.marks.length):=m4.1
 have hcap : qn + 12 ≤ cap3:=by rw [hq.1];exact m1
 have hmax : cap3 ≤ 9223372036854775807:=by have:=le63 m2;omega
 generalize t.form.args.length = n1 at *
 generalize t.form.sub.length = n2 at *
 generalize t.sub.length = n4 at *
 obtain ⟨n3,hn3⟩ : ∃ n3,t.marks.length = n3:=⟨_,rfl⟩
 rw [hn3] at R L1 HL
 clear k1 k2 k3 k4 y1 y2 y3 y4 m1 m2 m3 m4 m5 h hu hy hq
 obtain rfl : qn = n3:=L1.out
 rw [hn3]
 have HN:=Hd hn3
 clear hn3 L1
 have HB : Hid (Below w.heap.size w ((w.alloc (.cells #[str t.rule,.int .u8 t.form.op,str t.form.name,.slice (some ⟨b1,0,none⟩) n1 cap1,.slice (some ⟨b2,0,none⟩) n2 cap2,.int .i64 t.label,.slice (some ⟨b4,0,none⟩) n4 cap4,.slice (some ⟨b3,0,none⟩) qn cap3] 53)).alloc (.cells #[str t.rule,.int .u8 t.form.op,str t.form.name,.slice a k c,.slice a' m d,.int .i64 t.label,.slice s sn sc,.slice q qn qc] 53))):=bnew.alloc (by simp) _
 have G1 : Hid (((w.alloc (.cells #[str t.rule,.int .u8 t.form.op,str t.form.name,.slice (some ⟨b1,0,none⟩) n1 cap1,.slice (some ⟨b2,0,none⟩) n2 cap2,.int .i64 t.label,.slice (some ⟨b4,0,none⟩) n4 cap4,.slice (some ⟨b3,0,none⟩) qn cap3] 53)).alloc (.cells #[str t.rule,.int .u8 t.form.op,str t.form.name,.slice a k c,.slice a' m d,.int .i64 t.label,.slice s sn sc,.slice q qn qc] 53)).heap[w.heap.size]? = some (.cells #[str t.rule,.int .u8 t.form.op,str t.form.name,.slice (some ⟨b1,0,none⟩) n1 cap1,.slice (some ⟨b2,0,none⟩) n2 cap2,.int .i64 t.label,.slice (some ⟨b4,0,none⟩) n4 cap4,.slice (some ⟨b3,0,none⟩) qn cap3] 53 (0,0))):=kc bnew (heap_alloc_new _ _)
 have G2 : Hid (((w.alloc (.cells #[str t.rule,.int .u8 t.form.op,str t.form.name,.slice (some ⟨b1,0,none⟩) n1 cap1,.slice (some ⟨b2,0,none⟩) n2 cap2,.int .i64 t.label,.slice (some ⟨b4,0,none⟩) n4 cap4,.slice (some ⟨b3,0,none⟩) qn cap3] 53)).alloc (.cells #[str t.rule,.int .u8 t.form.op,str t.form.name,.slice a k c,.slice a' m d,.int .i64 t.label,.slice s sn sc,.slice q qn qc] 53)).heap[w.heap.size + 1]? = some (.cells #[str t.rule,.int .u8 t.form.op,str t.form.name,.slice a k c,.slice a' m d,.int .i64 t.label,.slice s sn sc,.slice q qn qc] 53 (0,0))):=by
  have:=heap_alloc_new (w.alloc (.cells #[str t.rule,.int .u8 t.form.op,str t.form.name,.slice (some ⟨b1,0,none⟩) n1 cap1,.slice (some ⟨b2,0,none⟩) n2 cap2,.int .i64 t.label,.slice (some ⟨b4,0,none⟩) n4 cap4,.slice (some ⟨b3,0,none⟩) qn cap3] 53)) (.cells #[str t.rule,.int .u8 t.form.op,str t.form.name,.slice a k c,.slice a' m d,.int .i64 t.label,.slice s sn sc,.slice q qn qc] 53)
  rwa [World.size_alloc] at this
 go_enter Tryz.func112,Tryz.ntmps112
 go_upto_region 3 with (first
  | (go_at_call 27;refine (R.out _ HB.out).mono ?_;rintro e w1 ⟨rfl,v1⟩;have B1:=Hd (aB HB.out v1);have E11:=Hd (kc v1 G1.out);have E12:=Hd (kc v1 G2.out);clear v1;obtain ⟨c0,c1,c2,c3,c4,c5,c6,c7⟩:=row53' E11.out;obtain ⟨d0,d1,d2,d3,d4,d5,d6,d7⟩:=row53' E12.out)
  | (go_at_call 51;refine (R2.out _ B1.out).mono ?_;rintro e w2 ⟨rfl,v2⟩;have B2:=Hd (aB B1.out v2);have E21:=Hd (kc v2 E11.out);have E22:=Hd (kc v2 E12.out);clear v2;clear c0 c1 c2 c3 c4 c5 c6 c7 d0 d1 d2 d3 d4 d5 d6 d7;obtain ⟨c0,c1,c2,c3,c4,c5,c6,c7⟩:=row53' E21.out;obtain ⟨d0,d1,d2,d3,d4,d5,d6,d7⟩:=row53' E22.out)
  | (go_at_call 183;refine (R3.out _ B2.out).mono ?_;rintro e w3 ⟨rfl,v3⟩;have B3:=Hd (aB B2.out v3);have E31:=Hd (kc v3 E21.out);have E32:=Hd (kc v3 E22.out);clear v3;clear c0 c1 c2 c3 c4 c5 c6 c7 d0 d1 d2 d3 d4 d5 d6 d7;obtain ⟨c0,c1,c2,c3,c4,c5,c6,c7⟩:=row53' E31.out;obtain ⟨d0,d1,d2,d3,d4,d5,d6,d7⟩:=row53' E32.out))
 clear R R2 R3
 go_wp2_with fail
 clear c0 c1 c2 c3 c4 c5 c6 c7 d0 d1 d2 d3 d4 d5 d6 d7
 go_loopw [6] (fun i wr=>∃ j : Nat,j ≤ qn + 12 ∧ i = .int .i64 j ∧ Hid (Below w3.heap.size w3 wr)) (fun i _=>qn + 12 - (intOf i).toNat)
 case atStart=>exact ⟨0,Nat.zero_le _,rfl,Below.refl _ _⟩
 case round =>
  obtain ⟨j,hj,rfl,hs⟩:=hrel
  have BR:=Hd (aB B3.out hs.out)
  have hK:=aA BR.out
  have ER2:=Hd (kc hs.out E32.out)
  have d7 : wr.cell? ⟨w.heap.size + 1,7,none⟩ = some (.slice q qn qc):=(row53' ER2.out).2.2.2.2.2.2.2
  by_cases hlt : j < qn
  ·obtain ⟨T,hT⟩:=aF (l:=t.marks) (j:=j) (by rw [HN.out];exact hlt)
   obtain ⟨bb,off,rfl,hc⟩:=HX.out.get (aJ hT)
   obtain ⟨f0,fn,fc,hy,hyv⟩:=hc j T hT
   obtain ⟨v,e0,hl⟩:=HC.out.2 j T hT
   obtain ⟨b',cap',rfl,-⟩:=id hl
   have c0 : wr.cell? ⟨b3,j,none⟩ = some (.slice (some ⟨b',0,none⟩) T.length cap'):=hK _ _ (HR.out.left j _ e0)
   have y0:=hK _ _ hy
   have cK : Hid (∀ W,Below wr.heap.size wr W → Calls Tryz.prog 77 #[.slice (some ⟨b',0,none⟩) T.length cap',.slice f0 fn fc] W fun e w''=>e = .returned (.bool true) ∧ Below W.heap.size W w''):=fun W hW =>
    keptInts_c T _ _ _ _ W ((hl.keep hK).keep (aA hW)) (mF.1 ((hyv.keep hK).keep (aA hW)))
   have g1 : decide ((j : Int) < (qn : Int)) = true:=by simp;omega
   have g2 : decide (qn ≤ j) = false:=by simp;omega
   have g4 : decide ((qn : Int) ≤ (j : Int)) = false:=by simp;omega
   have g5 : (decide ((j : Int) ≥ (qn : Int))) = false:=by simp;omega
   generalize T.length = n at *
   clear hT hK hc hy hyv hl e0
   have HA : Hid (∀ w',Below wr.heap.size wr w' → aR wr w'):=fun w' h=>by exact aA h
   have c0:=cell_regrown c0;have y0:=cell_regrown y0;have d7:=cell_regrown d7
   have cQ : Hid (∀ d os,Calls Tryz.prog 77 #[.slice (some ⟨b',0,none⟩) n cap',.slice f0 fn fc] (grow (redrawn wr d) os) fun e w''=>e = .returned (.bool true) ∧ ∃ p : Regrown,w'' = grow (redrawn wr p.d) p.os):=fun d os =>
    Calls.regrown_of (cK.out _ (below_regrown wr d os))
   go_wp2_with fail
   refine wqb ?_
   repeat (go_big_quiet_step (first | (go_at_call 77;exact cQ.out _ _)))
   refine wpQuiet_nil (qe fun wq WQ=>?_)
   go_wp2_with fail
   go_roundw
   case rel=>exact ⟨j + 1,by omega,by go_num,aB hs.out WQ.out⟩
   case measure=>simp [intOf];omega
  ·by_cases hlt2 : j < qn + 12
   ·obtain ⟨p,hp⟩ : ∃ p,j = qn + p:=⟨j - qn,by omega⟩
    have hp12 : p < 12:=by omega
    obtain ⟨v,e0,hl⟩:=HM.out.2 p hp12
    obtain ⟨vx,vc,rfl⟩:=hl.slice
    have c0 : wr.cell? ⟨b3,j,none⟩ = some (.slice vx 1 vc):=hK _ _ (HR.out j _ (by rw [List.getElem?_append_right (by rw [HL.out];omega),HL.out,hp,Nat.add_sub_cancel_left];exact e0))
    have cK : Hid (∀ W b (ty : TypeId),Below wr.heap.size wr W → W.heap[b]? = some (.cells #[.int .i64 (fL p)] ty (0,0)) → Calls Tryz.prog 152 #[.slice vx 1 vc,.slice (some ⟨b,0,none⟩) 1 1] W fun e w''=>e = .returned (.bool true) ∧ Below W.heap.size W w''):=fun W b ty hW hb =>
     sameInts_yes [fL p] _ _ _ _ _ _ W ((hl.keep hK).keep (aA hW)) ⟨_,_,rfl,Nat.le_refl _,by unfold maxLen;omega,rfl,.inr ⟨b,0,rfl,fun j u hu=>by rw [Nat.zero_add,box_cell hb];rw [← hu];simp [inV]⟩⟩
    have g1 : decide ((j : Int) < (qn : Int)) = false:=by simp;omega
    have g2 : decide (qn ≤ j) = true:=by simp;omega
    have g4 : decide ((qn : Int) ≤ (j : Int)) = true:=by simp;omega
    have g3 : (j : Int) - (qn : Int) = p:=by omega
    have cM : Hid (∀ W,Calls Tryz.prog 136 #[.int .i64 1,.int .i64 p] W fun e w''=>e = .returned (.int .i64 (fL p)) ∧ w'' = W):=fun W=>xV p hp12 W
    generalize fL p = N at *
    clear hK hp e0 hl
    have HA : Hid (∀ w',Below wr.heap.size wr w' → aR wr w'):=fun w' h=>by exact aA h
    have LG : Hid (w.heap.size + 1 < wr.heap.size):=(Array.getElem?_eq_some_iff.1 ER2.out).1
    have GW : Hid (IntKind.i64.wrap (p : Int) = p):=IntWalk.i64_in _ (by omega)
    have LB : Hid (b3 < wr.heap.size):=cell_ltq c0
    go_wp2_with fail
    have BD : Hid (Below wr.heap.size wr (wr.drew.alloc (.cells #[.int .i64 N] 3))):=(Below.refl _ _).drew.alloc (by simp) _
    refine wp_region_held_drew (S:=fun w'=>∀ i,i < wr.heap.size → w'.heap[i]? = wr.heap[i]?) (by kernel_rfl) (fun _ _=>rfl) (fun hHeld=>?_)
    refine tk 0 ?_
    try simp only [Act.put,s1,s2,s3,s4,s5,s6]
    refine tk 1 ?_
    try simp only [Act.put,s1,s2,s3,s4,s5,s6]
    refine tk 2 ?_ (hv:=by intro w0 hSw;have z1:=(World.cell?_of_block (a:=⟨w.heap.size + 1,7,none⟩) (hSw _ LG.out)).trans d7;go_simp;try with_reducible rfl)
    try simp only [Act.put,s1,s2,s3,s4,s5,s6]
    refine tk 3 ?_
    try simp only [Act.put,s1,s2,s3,s4,s5,s6]
    refine wpAnyH_take (i:=4) (v:=.bool false) rfl (by kernel_rfl) (by kernel_rfl) (by kernel_rfl) (fun _ _ _ h=>h) (Or.inl ⟨by rfl, ?_⟩) (by assumption) ?_
    ·(intro w0 hSw;go_simp;(try with_reducible rfl))
    try simp only [Act.put,s1,s2,s3,s4,s5,s6]
    refine wpAnyH_take (i:=5) (v:=.bool false) rfl (by kernel_rfl) (by kernel_rfl) (by kernel_rfl) (fun _ _ _ h=>h) (Or.inl ⟨by rfl, ?_⟩) (by assumption) ?_
    ·(intro w0 hSw;go_simp;(try with_reducible rfl))
    try simp only [Act.put,s1,s2,s3,s4,s5,s6]
    refine wpAnyH_take (i:=6) (v:=undef) rfl (by kernel_rfl) (by kernel_rfl) (by kernel_rfl) (fun _ _ _ h=>h) (Or.inr ⟨by rfl,rfl⟩) (by assumption) ?_
    try simp only [Act.put,s1,s2,s3,s4,s5,s6]
    refine wpAnyH_take (i:=7) (v:=undef) rfl (by kernel_rfl) (by kernel_rfl) (by kernel_rfl) (fun _ _ _ h=>h) (Or.inr ⟨by rfl,rfl⟩) (by assumption) ?_
    try simp only [Act.put,s1,s2,s3,s4,s5,s6]
    refine wpAnyH_take (i:=8) (v:=undef) rfl (by kernel_rfl) (by kernel_rfl) (by kernel_rfl) (fun _ _ _ h=>h) (Or.inr ⟨by rfl,rfl⟩) (by assumption) ?_
    try simp only [Act.put,s1,s2,s3,s4,s5,s6]
    refine wpAnyH_take (i:=9) (v:=undef) rfl (by kernel_rfl) (by kernel_rfl) (by kernel_rfl) (fun _ _ _ h=>h) (Or.inr ⟨by rfl,rfl⟩) (by assumption) ?_
    try simp only [Act.put,s1,s2,s3,s4,s5,s6]
    refine wpAnyH_take (i:=10) (v:=undef) rfl (by kernel_rfl) (by kernel_rfl) (by kernel_rfl) (fun _ _ _ h=>h) (Or.inr ⟨by rfl,rfl⟩) (by assumption) ?_
    try simp only [Act.put,s1,s2,s3,s4,s5,s6]
    refine wpAnyH_take (i:=11) (v:=undef) rfl (by kernel_rfl) (by kernel_rfl) (by kernel_rfl) (fun _ _ _ h=>h) (Or.inr ⟨by rfl,rfl⟩) (by assumption) ?_
    try simp only [Act.put,s1,s2,s3,s4,s5,s6]
    refine wpAnyH_take (i:=12) (v:=undef) rfl (by kernel_rfl) (by kernel_rfl) (by kernel_rfl) (fun _ _ _ h=>h) (Or.inr ⟨by rfl,rfl⟩) (by assumption) ?_
    try simp only [Act.put,s1,s2,s3,s4,s5,s6]
    refine wpAnyH_take (i:=13) (v:=undef) rfl (by kernel_rfl) (by kernel_rfl) (by kernel_rfl) (fun _ _ _ h=>h) (Or.inr ⟨by rfl,rfl⟩) (by assumption) ?_
    try simp only [Act.put,s1,s2,s3,s4,s5,s6]
    refine wpAnyH_take (i:=14) (v:=undef) rfl (by kernel_rfl) (by kernel_rfl) (by kernel_rfl) (fun _ _ _ h=>h) (Or.inr ⟨by rfl,rfl⟩) (by assumption) ?_
    try simp only [Act.put,s1,s2,s3,s4,s5,s6]
    refine wpAnyH_take (i:=15) (v:=undef) rfl (by kernel_rfl) (by kernel_rfl) (by kernel_rfl) (fun _ _ _ h=>h) (Or.inr ⟨by rfl,rfl⟩) (by assumption) ?_
    try simp only [Act.put,s1,s2,s3,s4,s5,s6]
    refine wpAnyH_take (i:=16) (v:=undef) rfl (by kernel_rfl) (by kernel_rfl) (by kernel_rfl) (fun _ _ _ h=>h) (Or.inr ⟨by rfl,rfl⟩) (by assumption) ?_
    try simp only [Act.put,s1,s2,s3,s4,s5,s6]
    refine wpAnyH_take (i:=17) (v:=.bool false) rfl (by kernel_rfl) (by kernel_rfl) (by kernel_rfl) (fun _ _ _ h=>h) (Or.inl ⟨by rfl, ?_⟩) (by assumption) ?_
    ·(intro w0 hSw;go_simp;(try with_reducible rfl))
    try simp only [Act.put,s1,s2,s3,s4,s5,s6]
    refine wpAnyH_take (i:=18) (v:=.bool false) rfl (by kernel_rfl) (by kernel_rfl) (by kernel_rfl) (fun _ _ _ h=>h) (Or.inl ⟨by rfl, ?_⟩) (by assumption) ?_
    ·(intro w0 hSw;go_simp;(try with_reducible rfl))
    try simp only [Act.put,s1,s2,s3,s4,s5,s6]
    refine tk 19 ?_
    try simp only [Act.put,s1,s2,s3,s4,s5,s6]
    refine tk 20 ?_
    try simp only [Act.put,s1,s2,s3,s4,s5,s6]
    refine tk 21 ?_ (hv:=by intro w0 hSw;have z1:=(World.cell?_of_block (a:=⟨w.heap.size + 1,7,none⟩) (hSw _ LG.out)).trans d7;go_simp;try with_reducible rfl)
    try simp only [Act.put,s1,s2,s3,s4,s5,s6]
    refine tk 22 ?_
    try simp only [Act.put,s1,s2,s3,s4,s5,s6]
    refine wpAnyH_take (i:=23) (v:=.bool true) rfl (by kernel_rfl) (by kernel_rfl) (by kernel_rfl) (fun _ _ _ h=>h) (Or.inl ⟨by rfl, ?_⟩) (by assumption) ?_
    ·(intro w0 hSw;go_simp;(try with_reducible rfl))
    try simp only [Act.put,s1,s2,s3,s4,s5,s6]
    refine wpAnyH_take (i:=24) (v:=.bool true) rfl (by kernel_rfl) (by kernel_rfl) (by kernel_rfl) (fun _ _ _ h=>h) (Or.inl ⟨by rfl, ?_⟩) (by assumption) ?_
    ·(intro w0 hSw;go_simp;(try with_reducible rfl))
    try simp only [Act.put,s1,s2,s3,s4,s5,s6]
    refine tk 25 ?_
    try simp only [Act.put,s1,s2,s3,s4,s5,s6]
    refine tk 26 ?_
    try simp only [Act.put,s1,s2,s3,s4,s5,s6]
    refine tk 27 ?_
    try simp only [Act.put,s1,s2,s3,s4,s5,s6]
    refine tk 28 ?_ (hv:=by intro w0 hSw;have z1:=(World.cell?_of_block (a:=⟨b3,j,none⟩) (hSw _ LB.out)).trans c0;go_simp;try with_reducible rfl)
    try simp only [Act.put,s1,s2,s3,s4,s5,s6]
    refine tk 29 ?_
    try simp only [Act.put,s1,s2,s3,s4,s5,s6]
    refine tk 30 ?_
    try simp only [Act.put,s1,s2,s3,s4,s5,s6]
    refine tk 31 ?_ (hv:=by intro w0 hSw;have z1:=(World.cell?_of_block (a:=⟨w.heap.size + 1,7,none⟩) (hSw _ LG.out)).trans d7;go_simp;try with_reducible rfl)
    try simp only [Act.put,s1,s2,s3,s4,s5,s6]
    refine tk 32 ?_
    try simp only [Act.put,s1,s2,s3,s4,s5,s6]
    refine tk 33 ?_
    try simp only [Act.put,s1,s2,s3,s4,s5,s6]
    refine rd 34 (fun K hK=>?_)
    go_simp
    go_at_call 136
    rw [GW.out]
    refine (cM.out _).mono ?_
    rintro e w5 ⟨rfl,rfl⟩
    go_simp
    refine hK.out _ _ hHeld (fun hHeld2=>?_)
    clear hK K
    try simp only [Act.put,s1,s2,s3,s4,s5,s6]
    refine rd 35 (fun K hK=>?_)
    go_simp
    refine hK.out _ _ (fun i hi=>BD.out.block i hi) (fun hHeld3=>?_)
    clear hK K
    try simp only [Act.put,s1,s2,s3,s4,s5,s6]
    refine rd 36 (fun K hK=>?_)
    go_simp
    go_at_call 152
    refine (cK.out _ _ _ BD.out (heap_alloc_new _ _)).mono ?_
    rintro e w6 ⟨rfl,b6⟩
    have B6:=Hd (aB BD.out b6)
    clear b6
    go_simp
    refine hK.out _ _ (fun i hi=>B6.out.block i hi) (fun hHeld4=>?_)
    clear hK K
    try simp only [Act.put,s1,s2,s3,s4,s5,s6]
    refine wpAnyH_take (i:=37) (v:=.bool false) rfl (by kernel_rfl) (by kernel_rfl) (by kernel_rfl) (fun _ _ _ h=>h) (Or.inl ⟨by rfl, ?_⟩) (by assumption) ?_
    ·(intro w0 hSw;go_simp;(try with_reducible rfl))
    try simp only [Act.put,s1,s2,s3,s4,s5,s6]
    refine wpAnyH_take (i:=38) (v:=.bool false) rfl (by kernel_rfl) (by kernel_rfl) (by kernel_rfl) (fun _ _ _ h=>h) (Or.inl ⟨by rfl, ?_⟩) (by assumption) ?_
    ·(intro w0 hSw;go_simp;(try with_reducible rfl))
    try simp only [Act.put,s1,s2,s3,s4,s5,s6]
    refine wpAnyH_take (i:=39) (v:=.bool false) rfl (by kernel_rfl) (by kernel_rfl) (by kernel_rfl) (fun _ _ _ h=>h) (Or.inl ⟨by rfl, ?_⟩) (by assumption) ?_
    ·(intro w0 hSw;go_simp;(try with_reducible rfl))
    try simp only [Act.put,s1,s2,s3,s4,s5,s6]
    refine wpAnyH_done (by kernel_rfl) ?_ _
    go_wp2_with fail
    go_roundw
    case rel=>exact ⟨j + 1,by omega,by go_num,aB hs.out B6.out⟩
    case measure=>simp [intOf];omega
   ·go_wp2_with fail
    go_ret
    exact ⟨rfl,BR.out⟩
mutual
theorem vD : ∀ t : Pf,KqT t
 | .mk r f l ps ms=>kq_of _ (kqs_step ps (oS ps))
theorem oS : ∀ l : List Pf,∀ t ∈ l,KqT t
 | [],_,h=>by cases h
 | x :: xs,t,h=>by
  rcases List.mem_cons.1 h with e | e
  ·rw [e];exact vD x
  ·exact oS xs t e
end
open Go Go.RowKit Go.Sort Ly
set_option maxHeartbeats 4000000
def kN (l : List Bs) : List Value:=l.map str
theorem strsV_one (l : List Bs) : ∀ u ∈ kN l,u.oneCell' = true:=by
 intro u hu
 obtain ⟨x,_,rfl⟩:=List.mem_map.1 hu
 rfl
theorem CE {w : World} {l : List Bs} {a : Option Addr} {n c : Nat} (h : aU w l (.slice a n c)) : cR w 1 (kN l) l.length (.slice a n c):=xB (by
 have e : (kN l).map D.val = l.map strD:=by simp [kN,strD]
 rw [e];exact h)
theorem flat_strsL {w : World} {l : List Bs} {a : Option Addr} {n c : Nat} (h : cR w 1 (kN l) l.length (.slice a n c)) : aU w l (.slice a n c):=by
 have e : (kN l).map D.val = l.map strD:=by simp [kN,strD]
 have:=h.to
 rw [e] at this;exact this
theorem get_fs {w : World} {l : List Bs} {a : Option Addr} {n c : Nat} (h : cR w 1 (kN l) l.length (.slice a n c)) {j : Nat} {f : Bs} (hf : l[j]? = some f) :
  ∃ b off,a = some ⟨b,off,none⟩ ∧ w.cell? ⟨b,off + j,none⟩ = some (str f):=by
 obtain ⟨b,off,e,hc⟩:=h.at (by have:=(List.getElem?_eq_some_iff.1 hf).1;omega)
 exact ⟨b,off,e,hc _ _ (by simp [kN,hf])⟩
theorem lentTexts_c (zs : List Value) (h1 : ∀ u ∈ zs,u.oneCell' = true) (n : Nat) (hn : n * 16 ≤ 140737488351232) (a : Option Addr) (m c : Nat) (w : World) (hx : cR w 1 zs n (.slice a m c)) :
  Calls Tryz.prog 111 #[.slice a m c] w fun e w'=>∃ b cap,e = .returned (.slice (some ⟨b,0,none⟩) m cap) ∧ eI (hide (lo w) w') 1 zs (marksOf uQ 12) m (.slice (some ⟨b,0,none⟩) m cap) ∧ Below w.heap.size w w':=by
 obtain rfl : m = n:=hx.len.1
 have hzl:=hx.len.2.2.2
 have hml : m ≤ 9223372036854775000:=by omega
 obtain ⟨i0,hi0,hz0,hs0,hb0⟩:=info_parts sP
 have HX:=Hd hx
 have H1:=Hd h1
 have HZ:=Hd hzl
 clear hx h1 hzl
 go_enter Tryz.func111,Tryz.ntmps111
 go_upto_region 3 with (first
  | (at_make;refine wpList_make_own _ rfl _ _ 36 rfl w.heap.size 9 i0 (.string ⟨#[]⟩) 1 Tryz.underlying36 hi0 hz0 hs0 _ _ _ (m + 12) rfl rfl (by first | rfl | omega) (by rw [hb0];omega) (by unfold maxLen;omega) (Nat.le_refl _) ?_;intro w1 hown1 hgrow1;have HO1:=Hd hown1;have B1:=Hd (below_grown hgrow1 (fun _ e=>by cases e) (Nat.le_refl _));clear hown1 hgrow1)
  | (at_builtin;refine lR _ rfl _ _ 36 rfl w.heap.size 9 i0 1 Tryz.underlying36 hi0 hs0 w.heap.size 0 (m + 12) _ rfl HO1.out a m c zs rfl (HX.out.keep (aA B1.out)) H1.out (by omega) ?_;intro w2 hown2 hgrow2;have HO2:=Hd hown2;have B2:=Hd (B1.out.trans (below_grown hgrow2 (fun x e=>by cases e;exact Nat.le_refl _) B1.out.size));clear hown2 hgrow2))
 have LR : Hid (mL w 9 1 zs uQ m 0 w2):=⟨by have:=HO2.out;simpa [marksOf] using this,B2.out⟩
 clear HO1 HO2 HX
 go_wp2_with fail
 go_loopw [3,4] (fun u i wr=>∃ p : Nat,p ≤ 12 ∧ i = .int .i64 p ∧ u = .slice (some ⟨w.heap.size,0,none⟩) (m + p) (m + 12) ∧ Hid (mL w 9 1 zs uQ m p wr)) (fun _ i _=>12 - (intOf i).toNat)
 case atStart=>exact ⟨0,by omega,rfl,by first | rfl | simp,LR.out⟩
 case round =>
  clear LR
  obtain ⟨p,hp,rfl,rfl,hs⟩:=hrel
  by_cases hlt : p < 12
  ·go_wp2_with (first
    | (go_at_call 182;refine (jK p hlt _).mono ?_;rintro e w3 ⟨rfl,b3⟩;have OW:=Hd (hs.out.moved b3).own;have B3:=Hd b3;clear b3)
    | (at_builtin;refine wpList_append_fits _ rfl _ _ 36 rfl w.heap.size 9 i0 1 Tryz.underlying36 hi0 hs0 w.heap.size (m + p) (m + 12) _ rfl (OW.out.alloc _) ⟨w3.heap.size,0,none⟩ 1 1 [str (bD p)] rfl rfl (FH _ _) (by simp [Value.oneCell']) (by omega) ?_;intro w4 hown4 hgrow4))
   go_roundw
   case rel =>
    refine ⟨p + 1,by omega,by go_num,rfl, ?_⟩
    have bA : ∀ o,Below w3.heap.size w3 (w3.alloc o):=fun o=>bnew
    exact mL.mark (aB (aB hs.out.bw B3.out) (bA _)) (Nat.le_trans hs.out.bw.size (Nat.le_trans B3.out.size (by simp))) hown4 hgrow4
   case measure=>simp [intOf];omega
  ·obtain rfl : p = 12:=by omega
   have LE:=Hd (hs.out.lent HZ.out (by unfold maxLen;omega))
   have LB:=Hd hs.out.bw
   clear hs
   go_wp2_with fail
   go_ret
   exact ⟨_,_,rfl,LE.out,LB.out⟩
theorem keptTexts_c (l : List Bs) (u : Value) (a : Option Addr) (k c : Nat) (w : World) (hu : eI w 1 (kN l) (marksOf uQ 12) l.length u) (hy : cR w 1 (kN l) l.length (.slice a k c)) :
  Calls Tryz.prog 113 #[u,.slice a k c] w (Rt (.bool true) w):=by
 have hk:=hy.len
 obtain ⟨b,cap,rfl,e1,e2,e3,e4⟩:=id hu
 have L1:=Hd hk.1
 have ZL:=Hd e3
 have HR:=Hd e4
 have HY:=Hd hy
 have hcap : k + 12 ≤ cap:=by rw [hk.1];exact e1
 have hmax : cap ≤ 9223372036854775807:=by have:=le63 e2;omega
 rw [← hk.1]
 clear hk hu hy e1 e2 e3 e4
 go_enter Tryz.func113,Tryz.ntmps113
 go_wp2_with fail
 go_loopw [6] (fun i wr=>∃ j : Nat,j ≤ k + 12 ∧ i = .int .i64 j ∧ Hid (Below w.heap.size w wr)) (fun i _=>k + 12 - (intOf i).toNat)
 case atStart=>exact ⟨0,Nat.zero_le _,rfl,Below.refl _ _⟩
 case round =>
  obtain ⟨j,hj,rfl,hs⟩:=hrel
  by_cases hlt : j < k
  ·obtain ⟨T,hT⟩:=aF (l:=l) (j:=j) (by rw [← L1.out];exact hlt)
   obtain ⟨bb,off,rfl,q0⟩:=get_fs HY.out hT
   have e0 : (kN l)[j]? = some (str T):=by simp [kN,hT]
   have hK:=aA hs.out
   have c0:=cell_regrown (hK _ _ (GF HR.out e0))
   have d0:=cell_regrown (hK _ _ q0)
   have g1 : decide ((j : Int) < (k : Int)) = true:=by simp;omega
   have g2 : decide (k ≤ j) = false:=by simp;omega
   clear hT hK
   go_wp2_with fail
   refine wqb ?_
   repeat (go_big_quiet_step (fail))
   refine wpQuiet_nil (qe fun wq WQ=>?_)
   go_wp2_with fail
   go_roundw
   case rel=>exact ⟨j + 1,by omega,by go_num,aB hs.out WQ.out⟩
   case measure=>simp [intOf];omega
  ·by_cases hlt2 : j < k + 12
   ·obtain ⟨p,hp⟩ : ∃ p,j = k + p:=⟨j - k,by omega⟩
    have hp12 : p < 12:=by omega
    have hK:=aA hs.out
    have c0 : wr.cell? ⟨b,j,none⟩ = some (str (bD p)):=by
     have:=hK _ _ (GG HR.out ZL.out (fun _=>rfl) hp12 (show 0 < 1 by decide) (u:=str (bD p)) rfl)
     rw [← L1.out,← hp] at this;simpa using this
    have c0:=cell_regrown c0
    have cM : Hid (∀ d os,Calls Tryz.prog 182 #[.int .i64 1,.int .i64 p] (grow (redrawn wr d) os) fun e w''=>e = .returned (str (bD p)) ∧ ∃ q : Regrown,w'' = grow (redrawn wr q.d) q.os):=fun d os =>
     Calls.regrown_of (jK p hp12 _)
    have g1 : decide ((j : Int) < (k : Int)) = false:=by simp;omega
    have g2 : decide (k ≤ j) = true:=by simp;omega
    have g3 : (j : Int) - (k : Int) = p:=by omega
    generalize bD p = M at *
    clear hK hp
    go_wp2_with fail
    refine wqb ?_
    repeat (go_big_quiet_step (first | (go_at_call 182;exact cM.out _ _)))
    refine wpQuiet_nil (qe fun wq WQ=>?_)
    go_wp2_with fail
    go_roundw
    case rel=>exact ⟨j + 1,by omega,by go_num,aB hs.out WQ.out⟩
    case measure=>simp [intOf];omega
   ·go_wp2_with fail
    go_ret
    exact ⟨rfl,hs.out⟩
open Go Go.RowKit Ly
open Go.Sort (grow)
set_option maxHeartbeats 1600000
theorem u34 : ∃ fs,Tryz.prog.underlying 34 = some (.struct fs):=⟨_,Tryz.underlying34⟩
open Go Go.RowKit Ly
open Go.Sort (grow)
set_option maxHeartbeats 1600000
open Go Go.RowKit Go.Sort Ly
set_option maxHeartbeats 4000000
theorem news1u (w : World) (o : Obj) (a : Value) {t : TypeId} : ∀ (j : Nat) (u : Value),[a][j]? = some u → ((w.alloc o).alloc (.cells #[a] t)).cell? ((⟨w.heap.size + 1,0,none⟩ : Addr).add j) = some u:=by
 intro j u hu
 have:=FH (w.alloc o) a (t:=t) j u hu
 rwa [World.size_alloc] at this
open Go Go.RowKit Go.Sort Ly
set_option maxHeartbeats 4000000
open Go Go.RowKit Go.Sort Ly
set_option maxHeartbeats 4000000
end Go.Proofs.YtcandidgaegghaaGreatDoor
