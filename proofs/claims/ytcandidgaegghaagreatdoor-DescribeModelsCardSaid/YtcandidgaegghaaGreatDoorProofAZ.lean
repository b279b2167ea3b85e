/- Contract of describe.Claim at right formulas. -/
import Derived.Test.YtcandidgaegghaaGreatDoorCpZ
import Derived.Test.YtcandidgaegghaaGreatDoorSameBZ
import Derived.Test.YtcandidgaegghaaGreatDoorPlBZ
import Derived.Test.YtcandidgaegghaaGreatDoorRightZ
import Derived.Laws.IdiomStrings
set_option maxRecDepth 10000
set_option linter.unusedSimpArgs false
set_option linter.unusedVariables false
namespace Go.Proofs.YtcandidgaegghaaGreatDoor
open Go Go.RowKit Ly
theorem aD.below {B : Nat} {w w' : World} {l : List Bs} {v : Value} (h : aD B w l v) (hb : Below w.heap.size w w') : aD B w' l v:=by
 obtain ⟨h1,h2⟩:=h
 refine ⟨h1, ?_⟩
 rcases h2 with h2 | ⟨g,cap,cur,e,hB,hg,r⟩
 ·exact .inl h2
 ·refine .inr ⟨g,cap,cur,e,hB, ?_,r⟩
  rw [hb.block g (Array.getElem?_eq_some_iff.1 hg).1];exact hg
theorem yM (x : Array UInt8) (y : Bs) : Value.string (⟨x⟩ ++ ⟨y.toArray⟩) = str (x.toList ++ y):=by
 show Value.string _ = Value.string _
 rw [cG];congr 2;simp
theorem cY {α β : Type} (f : α → β) {l : List α} {j : Nat} {x : α} (h : l[j]? = some x) : (l.take (j + 1)).map f = (l.take j).map f ++ [f x]:=by
 rw [List.take_add_one,h];simp
theorem vH (sep : Bs) : ∀ l : List Bs,Lib.join l sep = bS sep l
 | []=>rfl
 | [x]=>by simp [Lib.join,bS]
 | x :: y :: r=>by
  have:=vH sep (y :: r)
  simp [Lib.join,bS] at this ⊢
  exact this
theorem rP {B : Nat} {w : World} {l : List Bs} {v : Value} (sep : Bs) (h : aD B w l v) (h1 : l.length ≤ 1000000) (h2 : (bS sep l).length ≤ 140737488355328) :
  Calls Tryz.prog 37 #[v,.string ⟨sep.toArray⟩] w (Rt (str (bS sep l)) w):=by
 obtain ⟨a,n,c,rfl⟩:=h.strsAt.slice
 have hl:=h.strsAt.len
 by_cases hne : l = []
 ·subst hne
  have h0 : n = 0:=hl.1
  subst h0
  refine (Tryz.strings_Join_none a c ⟨sep.toArray⟩ w).mono ?_
  rintro e w' ⟨rfl,rfl⟩
  exact ⟨rfl,Below.refl _ _⟩
 obtain ⟨b,off,rfl,hc⟩:=h.strsAt.get hne
 have e : (l.map (fun x : Bs=>(⟨x.toArray⟩ : ByteArray))).map (·.data.toList) = l:=by simp [List.map_map,Function.comp_def]
 have hx:=Tryz.strings_Join b off c (l.map (fun x : Bs=>(⟨x.toArray⟩ : ByteArray))) ⟨sep.toArray⟩ w
  (fun j x hj=>by
   rw [List.getElem?_map] at hj
   obtain ⟨y,hy,rfl⟩:=Option.map_eq_some_iff.1 hj
   exact hc j y hy)
  (by
   obtain ⟨x,hx⟩:=List.exists_mem_of_ne_nil l hne
   obtain ⟨j,hj⟩:=List.getElem?_of_mem hx
   exact World.block_lt_of_cell? w _ (hc j x hj))
  (by simp;omega) (by simp;have:=hl.1;omega) (by rw [e];show (Lib.join l sep).length ≤ _;rw [vH];exact h2)
 rw [e,List.length_map,← hl.1] at hx
 refine hx.mono ?_
 rintro e w' ⟨rfl,h⟩
 refine ⟨?_,h⟩
 show Ending.returned (.string ⟨(Lib.join l sep).toArray⟩) = _
 rw [vH]
theorem nO (sep : Bs) (hs : sep.length ≤ 10) : ∀ (l : List Bs) (_ : ∀ x ∈ l,x.length ≤ 1000000),(bS sep l).length ≤ l.length * 1000010
 | [],_=>by simp [bS]
 | [x],h=>by have:=h x (by simp);simp [bS];omega
 | x :: y :: r,h=>by
  have h1:=h x (by simp)
  have h2:=nO sep hs (y :: r) (fun z hz=>h z (by simp at hz ⊢;right;exact hz))
  simp only [bS,List.length_append,List.length_cons] at h2 ⊢
  omega
theorem iJ {f : Fm} (h : f.right = true) : f.words.length ≤ 1000000 ∧ f.text.length ≤ 1000000:=by have:=iD h;exact ⟨by omega,by omega⟩
theorem claim_len {G S : List Fm} (hG : ∀ g ∈ G,g.right = true) (hS : ∀ g ∈ S,g.right = true) (hlen : G.length + S.length ≤ 1000) :
  (fJ G S).length ≤ 1000000 ∧ (bS [44,32] (fJ G S)).length ≤ 140737488355328:=by
 have h1 : (fJ G S).length ≤ 1000:=by simp [fJ];omega
 have h2:=nO [44,32] (by decide) (fJ G S) (fun x hx=>by
  unfold fJ at hx
  rcases List.mem_append.1 hx with h | h
  ·obtain ⟨g,hg,rfl⟩:=List.mem_map.1 h
   have:=(iD (hG g hg)).2;simp [gH];omega
  ·obtain ⟨g,hg,rfl⟩:=List.mem_map.1 h
   have:=(iD (hS g hg)).2;simp [nX];omega)
 have h3 : (fJ G S).length * 1000010 ≤ 1000 * 1000010:=Nat.mul_le_mul_right _ h1
 omega
set_option linter.unusedSimpArgs false in
set_option maxRecDepth 4000 in
set_option maxHeartbeats 1600000 in
theorem Claim_c (G S : List Fm) (hG : ∀ g ∈ G,g.right = true) (hS : ∀ g ∈ S,g.right = true) (hlen : G.length + S.length ≤ 1000) (x : Value) (w : World) (hr : gC w) (hx : SqVal w G S x) :
  Calls Tryz.prog 22 #[x] w (Rt (.tuple #[str (pT G S),.int .i64 0]) w):=by
 obtain ⟨a,k,c,a',m,d,rfl,h1,h2⟩:=hx
 have hk:=h1.len
 have hm:=h2.len
 have hkl : k ≤ 1000:=by omega
 have hml : m ≤ 1000:=by omega
 have L1:=Hd hk.1
 have L2:=Hd hm.1
 have HX:=Hd h1
 have HY:=Hd h2
 have HR:=Hd hr
 have HG:=Hd hG
 have HS:=Hd hS
 have HL:=Hd hlen
 clear hk hm h1 h2 hr hG hS hlen
 obtain ⟨i0,hi0,hz0,hs0,hb0⟩:=info_parts fP
 go_enter Tryz.func22,Tryz.ntmps22
 go_wp2_with fail
 have WB : Hid (Below w.heap.size w (w.alloc (.cells #[.slice a k c,.slice a' m d] 48))):=bnew
 have WK:=Hd (bU w (.cells #[.slice a k c,.slice a' m d] 48))
 have E1 : Hid ((w.alloc (.cells #[.slice a k c,.slice a' m d] 48)).cell? ⟨w.heap.size,1,none⟩ = some (.slice a' m d)):=by show _ = _;simp [go_sem]
 generalize hW : w.alloc (.cells #[.slice a k c,.slice a' m d] 48) = W0 at *
 have HX:=Hd (HX.out.keep WK.out)
 have HY:=Hd (HY.out.keep WK.out)
 have HR:=Hd (HR.out.keep WK.out)
 clear hW
 go_loopw [4,12] (fun u i wr=>∃ j : Nat,j ≤ k ∧ i = .int .i64 j ∧ Hid (aD W0.heap.size wr ((G.take j).map (fun g=>gH ++ g.text)) u ∧ Below W0.heap.size W0 wr)) (fun _ i _=>k - (intOf i).toNat)
 case atStart=>exact ⟨0,Nat.zero_le _,rfl,World.ownsRow_nil _ _ _ _,Below.refl _ _⟩
 case round =>
  obtain ⟨j,hj,rfl,hr⟩:=hrel
  by_cases hlt : j < k
  ·obtain ⟨T,hT⟩:=aH (l:=G) (j:=j) (by rw [← L1.out];exact hlt)
   obtain ⟨b,off,rfl,hc⟩:=HX.out.get (bG hT)
   obtain ⟨x0,x1,x2,y0,y1,y2,hx⟩:=hc j _ hT
   have hK:=aC hr.out.2
   have c0:=hK _ _ hx.c0;have c1:=hK _ _ hx.c1;have c2:=hK _ _ hx.c2;have c3:=hK _ _ hx.c3
   have X:=Hd (hx.at_.keep hK)
   have Y:=Hd (hx.at'.keep hK)
   have RT:=Hd (HG.out T (List.mem_of_getElem? hT))
   have RW:=Hd (HR.out.keep hK)
   have OWN:=Hd hr.out.1
   have BLW:=Hd hr.out.2
   have hT:=Hd hT
   clear hc hx hK hr
   go_wp2_with fail
   refine (iQ T (.agg #[.int .u8 T.op,str T.name,.slice x0 x1 x2,.slice y0 y1 y2]) _ (RW.out.keep (bU _ _)) ⟨_,_,_,_,_,_,rfl,X.out.keep (bU _ _),Y.out.keep (bU _ _)⟩ RT.out).mono ?_
   rintro e w1 ⟨rfl,b1⟩
   obtain ⟨hc1,hf1⟩:=fG b1
   have B1:=Hd b1
   have K1 : Hid (bI wr w1):=aC (bO b1)
   go_wp2_with fail
   refine (qF T (jD RT.out) (iJ RT.out) _ _ _ _ _ _ _ (X.out.keep K1.out) (Y.out.keep K1.out)).mono ?_
   rintro e w2 ⟨rfl,b2⟩
   have B2:=Hd (aA (bO B1.out) b2)
   have TL:=Hd (iD RT.out).2
   have tl : T.text.length ≤ 1000000:=by have:=TL.out;omega
   have OWN2:=Hd (aD.below OWN.out B2.out)
   have BL2:=Hd (BLW.out.trans (B2.out.mono BLW.out.size))
   have M1:=Hd (cY (fun g : Fm=>gH ++ g.text) hT.out)
   have LE : Hid (((G.take j).map (fun g : Fm=>gH ++ g.text)).length ≤ 1000):=by show _ ≤ _;simp only [List.length_append,List.length_map,List.length_take];have:=L1.out;have:=L1.out;have:=L2.out;have:=HL.out;omega
   have E2 : Hid ((G.take (j + 1)).map (fun g : Fm=>gH ++ g.text) = ((G.take j).map (fun g : Fm=>gH ++ g.text)) ++ [gH ++ T.text]):=by show _ = _;rw [M1.out]
   generalize (G.take j).map (fun g : Fm=>gH ++ g.text) = M at *
   have C3 : Hid (M.length + 1 ≤ maxLen ∧ (M.length + 1) * 16 ≤ 140737488355328):=by
    have h1:=LE.out
    exact ⟨by unfold maxLen;omega,by omega⟩
   have C6 : Hid (W0.heap.size ≤ (w2.alloc (.cells #[.string (⟨#[103,105,118,101,110,32]⟩ ++ ⟨T.text.toArray⟩)] 9)).heap.size):=by
    have:=BL2.out.size;show _ ≤ _;simp;omega
   go_wp2_with (at_builtin;refine wpList_append_own _ rfl _ _ 36 rfl W0.heap.size 9 i0 (.string ⟨#[]⟩) 1 16 Tryz.underlying36 hi0 hz0 hs0 hb0 rfl (by decide) _ _ _ rfl (OWN2.out.alloc _) ⟨w2.heap.size,0,none⟩ 1 1 [.string (⟨#[103,105,118,101,110,32]⟩ ++ ⟨T.text.toArray⟩)] rfl rfl (cell_one_new _ _ _) (by intro u hu;simp at hu;subst hu;rfl) C3.out.1 C3.out.2 C6.out ?_)
   intro v' w3 hown2 hg2 _
   have R : Hid (aD W0.heap.size w3 ((G.take (j + 1)).map (fun g : Fm=>gH ++ g.text)) v' ∧ Below W0.heap.size W0 w3):=by
    refine ⟨?_,(BL2.out.alloc BL2.out.size _).grown hg2 C6.out (fun kk hkk=>(OWN2.out.lt kk hkk).1)⟩
    rw [E2.out]
    unfold aD
    rw [List.length_append,List.map_append]
    rw [yM] at hown2
    exact hown2
   clear hown2 hg2
   go_wp2_with fail
   go_roundw
   case rel=>exact ⟨j + 1,by omega,by go_num,R⟩
   case measure=>simp [intOf];omega
  ·have e : G.take j = G:=List.take_of_length_le (by rw [← L1.out];omega)
   have HO : Hid (aD W0.heap.size wr (G.map (fun g=>gH ++ g.text)) u4):=by have:=hr.out.1;rw [e] at this;exact this
   have HB:=Hd hr.out.2
   have f1:=aC hr.out.2 _ _ E1.out
   clear hr e
   go_wp2_with fail
   go_loopw [4,29] (fun u i wr=>∃ j : Nat,j ≤ m ∧ i = .int .i64 j ∧ Hid (aD W0.heap.size wr (G.map (fun g=>gH ++ g.text) ++ (S.take j).map (fun g=>nX ++ g.text)) u ∧ Below W0.heap.size W0 wr)) (fun _ i _=>m - (intOf i).toNat)
   case atStart=>exact ⟨0,Nat.zero_le _,rfl,by simpa using HO.out,HB.out⟩
   case round =>
    obtain ⟨j,hj,rfl,hr⟩:=hrel
    by_cases hlt : j < m
    ·obtain ⟨T,hT⟩:=aH (l:=S) (j:=j) (by rw [← L2.out];exact hlt)
     obtain ⟨b,off,rfl,hc⟩:=HY.out.get (bG hT)
     obtain ⟨x0,x1,x2,y0,y1,y2,hx⟩:=hc j _ hT
     have hK:=aC hr.out.2
     have c0:=hK _ _ hx.c0;have c1:=hK _ _ hx.c1;have c2:=hK _ _ hx.c2;have c3:=hK _ _ hx.c3
     have X:=Hd (hx.at_.keep hK)
     have Y:=Hd (hx.at'.keep hK)
     have RT:=Hd (HS.out T (List.mem_of_getElem? hT))
     have RW:=Hd (HR.out.keep hK)
     have OWN:=Hd hr.out.1
     have BLW:=Hd hr.out.2
     have hT:=Hd hT
     clear hc hx hK hr
     go_wp2_with fail
     refine (iQ T (.agg #[.int .u8 T.op,str T.name,.slice x0 x1 x2,.slice y0 y1 y2]) _ (RW.out.keep (bU _ _)) ⟨_,_,_,_,_,_,rfl,X.out.keep (bU _ _),Y.out.keep (bU _ _)⟩ RT.out).mono ?_
     rintro e w1 ⟨rfl,b1⟩
     obtain ⟨hc1,hf1⟩:=fG b1
     have B1:=Hd b1
     have K1 : Hid (bI wr w1):=aC (bO b1)
     go_wp2_with fail
     refine (qF T (jD RT.out) (iJ RT.out) _ _ _ _ _ _ _ (X.out.keep K1.out) (Y.out.keep K1.out)).mono ?_
     rintro e w2 ⟨rfl,b2⟩
     have B2:=Hd (aA (bO B1.out) b2)
     have TL:=Hd (iD RT.out).2
     have tl : T.text.length ≤ 1000000:=by have:=TL.out;omega
     have OWN2:=Hd (aD.below OWN.out B2.out)
     have BL2:=Hd (BLW.out.trans (B2.out.mono BLW.out.size))
     have M1:=Hd (cY (fun g : Fm=>nX ++ g.text) hT.out)
     have LE : Hid ((G.map (fun g=>gH ++ g.text) ++ (S.take j).map (fun g : Fm=>nX ++ g.text)).length ≤ 1000):=by show _ ≤ _;simp only [List.length_append,List.length_map,List.length_take];have:=L2.out;have:=L1.out;have:=L2.out;have:=HL.out;omega
     have E2 : Hid (G.map (fun g=>gH ++ g.text) ++ (S.take (j + 1)).map (fun g : Fm=>nX ++ g.text) = (G.map (fun g=>gH ++ g.text) ++ (S.take j).map (fun g : Fm=>nX ++ g.text)) ++ [nX ++ T.text]):=by show _ = _;rw [M1.out];rw [List.append_assoc]
     generalize G.map (fun g=>gH ++ g.text) ++ (S.take j).map (fun g : Fm=>nX ++ g.text) = M at *
     have C3 : Hid (M.length + 1 ≤ maxLen ∧ (M.length + 1) * 16 ≤ 140737488355328):=by
      have h1:=LE.out
      exact ⟨by unfold maxLen;omega,by omega⟩
     have C6 : Hid (W0.heap.size ≤ (w2.alloc (.cells #[.string (⟨#[115,104,111,119,32]⟩ ++ ⟨T.text.toArray⟩)] 9)).heap.size):=by
      have:=BL2.out.size;show _ ≤ _;simp;omega
     go_wp2_with (at_builtin;refine wpList_append_own _ rfl _ _ 36 rfl W0.heap.size 9 i0 (.string ⟨#[]⟩) 1 16 Tryz.underlying36 hi0 hz0 hs0 hb0 rfl (by decide) _ _ _ rfl (OWN2.out.alloc _) ⟨w2.heap.size,0,none⟩ 1 1 [.string (⟨#[115,104,111,119,32]⟩ ++ ⟨T.text.toArray⟩)] rfl rfl (cell_one_new _ _ _) (by intro u hu;simp at hu;subst hu;rfl) C3.out.1 C3.out.2 C6.out ?_)
     intro v' w3 hown2 hg2 _
     have R : Hid (aD W0.heap.size w3 (G.map (fun g=>gH ++ g.text) ++ (S.take (j + 1)).map (fun g : Fm=>nX ++ g.text)) v' ∧ Below W0.heap.size W0 w3):=by
      refine ⟨?_,(BL2.out.alloc BL2.out.size _).grown hg2 C6.out (fun kk hkk=>(OWN2.out.lt kk hkk).1)⟩
      rw [E2.out]
      unfold aD
      rw [List.length_append,List.map_append]
      rw [yM] at hown2
      exact hown2
     clear hown2 hg2
     go_wp2_with fail
     go_roundw
     case rel=>exact ⟨j + 1,by omega,by go_num,R⟩
     case measure=>simp [intOf];omega
    ·have e : S.take j = S:=List.take_of_length_le (by rw [← L2.out];omega)
     have HO2 : Hid (aD W0.heap.size wr (fJ G S) u4):=by have:=hr.out.1;rw [e] at this;exact this
     have HB2:=Hd hr.out.2
     have CL:=Hd (claim_len HG.out HS.out HL.out)
     clear hr e
     go_wp2_with fail
     refine (rP [44,32] HO2.out CL.out.1 CL.out.2).mono ?_
     rintro e w2 ⟨rfl,b2⟩
     have R:=Hd (WB.out.trans ((HB2.out.trans (b2.mono HB2.out.size)).mono WB.out.size))
     clear b2
     go_wp2_with fail
     exact bodyPost_ret (v:=.tuple #[str (pT G S),.int .i64 0]) (by simp [results,Tryz.results22,go_sem,pT]) rfl ⟨rfl,R.out⟩
open Go Go.RowKit Ly
set_option maxHeartbeats 400000
theorem bytes_made (s : Bs) (w : World) : ∃ w1 cap,(convert 9 43 (str s)).run Tryz.prog w = .ok (.slice (some ⟨w.heap.size,0,none⟩) s.length cap) w1 ∧ Below w.heap.size w w1 ∧
  ∀ (j : Nat) (x : UInt8),s[j]? = some x → w1.cell? ⟨w.heap.size,j,none⟩ = some (.int .u8 x.toNat):=by
 have h:=run_bytes_of_string (P:=Tryz.prog) w 9 43 5 ⟨s.toArray⟩ Tryz.underlying9 Tryz.underlying43 Tryz.underlying5
 refine ⟨_,_,h, ?_, ?_⟩
 ·have:=((Below.refl w.heap.size w).drew).alloc (Nat.le_refl _) (.cells (bytesRow ⟨s.toArray⟩ (grownCap w s.length 0 5)) 5 ((bytesRow ⟨s.toArray⟩ (grownCap w s.length 0 5)).size,(bytesRow ⟨s.toArray⟩ (grownCap w s.length 0 5)).size + 1))
  exact this
 ·intro j x hx
  have hj:=(List.getElem?_eq_some_iff.1 hx).1
  simp [go_sem,bytesRow]
  unfold World.cell?
  simp only [World.alloc]
  simp
  rw [Array.getElem?_append_left (by simpa using hj)]
  simp [hx]
theorem vQ {c : UInt8} (h : eF c = true) : (97 ≤ c.toNat ∧ c.toNat ≤ 122) ∨ (65 ≤ c.toNat ∧ c.toNat ≤ 90) ∨ (48 ≤ c.toNat ∧ c.toNat ≤ 57):=by
 simp only [eF,small,eA,digit,Bool.or_eq_true,Bool.and_eq_true,decide_eq_true_eq,UInt8.le_iff_toNat_le] at h
 simp at h;omega
theorem isName_c (s : Bs) (h : jG s = true) (w : World) : Calls Tryz.prog 238 #[str s] w (Rt (.bool true) w):=by
 cases s with
 | nil=>simp [jG] at h
 | cons c r =>
  have ha:=ruleName_al h
  simp only [jG,Bool.and_eq_true,decide_eq_true_eq,Bool.or_eq_true] at h
  have hl : r.length ≤ 15:=by omega
  have d1 : decide ((r.length : Int) + 1 < 1) = false:=by simp;omega
  have d2 : decide (16 < (r.length : Int) + 1) = false:=by simp;omega
  have e0 : (⟨(c :: r).toArray⟩ : ByteArray)[0]'(by simp [ByteArray.size]) = c:=rfl
  obtain ⟨w1,cap,hrun,hb1,hcells⟩:=bytes_made (c :: r) w
  have HB:=Hd hb1
  have HC:=Hd hcells
  have AL:=Hd ha
  have hc : (c.toNat < 48) ∨ (57 < c.toNat):=by
   have:=h.1.2
   simp only [small,eA,Bool.and_eq_true,decide_eq_true_eq,UInt8.le_iff_toNat_le] at this
   simp at this;omega
  clear h ha hb1 hcells
  rcases hc with hc | hc
  ·have d3 : decide ((48 : Int) ≤ c.toNat) = false:=by simp;omega
   go_enter Tryz.func238,Tryz.ntmps238
   go_wp2_with fail
   go_loop [26] (fun i=>∃ k : Nat,k ≤ r.length + 1 ∧ i = .int .i64 k) (fun i=>r.length + 1 - (intOf i).toNat)
   case atStart=>exact ⟨0,Nat.zero_le _,rfl⟩
   case round =>
    obtain ⟨k,hk,rfl⟩:=hrel
    by_cases hlt : k < r.length + 1
    ·obtain ⟨x,hx⟩:=aH (l:=c :: r) (j:=k) (by simpa using hlt)
     have ck:=HC.out k x hx
     have hx2:=vQ (AL.out x (List.mem_of_getElem? hx))
     clear hx
     rcases hx2 with ⟨q1,q2⟩ | ⟨q1,q2⟩ | ⟨q1,q2⟩
     all_goals
      go_wp2_with fail
      go_round
      case rel=>exact ⟨k + 1,by omega,by go_num⟩
      case measure=>simp [intOf];omega
    ·go_wp2_with fail
     go_ret
     exact ⟨rfl,HB.out⟩
  ·have d3 : decide ((c.toNat : Int) ≤ 57) = false:=by simp;omega
   have q:=Nat.lt_trans (by decide : 48 < 57) hc
   go_enter Tryz.func238,Tryz.ntmps238
   go_wp2_with fail
   go_loop [26] (fun i=>∃ k : Nat,k ≤ r.length + 1 ∧ i = .int .i64 k) (fun i=>r.length + 1 - (intOf i).toNat)
   case atStart=>exact ⟨0,Nat.zero_le _,rfl⟩
   case round =>
    obtain ⟨k,hk,rfl⟩:=hrel
    by_cases hlt : k < r.length + 1
    ·obtain ⟨x,hx⟩:=aH (l:=c :: r) (j:=k) (by simpa using hlt)
     have ck:=HC.out k x hx
     have hx2:=vQ (AL.out x (List.mem_of_getElem? hx))
     clear hx
     rcases hx2 with ⟨q1,q2⟩ | ⟨q1,q2⟩ | ⟨q1,q2⟩
     all_goals
      go_wp2_with fail
      go_round
      case rel=>exact ⟨k + 1,by omega,by go_num⟩
      case measure=>simp [intOf];omega
    ·go_wp2_with fail
     go_ret
     exact ⟨rfl,HB.out⟩
open Go Go.RowKit Ly
set_option maxHeartbeats 400000
theorem markBad_c (n : Int) (h : qA n = true) (w : World) : Calls Tryz.prog 240 #[.int .i64 n] w fun e w'=>e = .returned (.bool false) ∧ w = w':=by
 simp only [qA,decide_eq_true_eq] at h
 have d1 : decide (n < 0) = false:=by simp;omega
 have d2 : decide (999 < n) = false:=by simp;omega
 go_enter Tryz.func240,Tryz.ntmps240
 go_wp2_with fail
 go_ret
 exact ⟨rfl,rfl⟩
theorem indexFunc_c (l : List Int) (a : Option Addr) (n c : Nat) (w : World) (h : dF w l (.slice a n c)) (hm : l.all qA = true) :
  Calls Tryz.prog 285 #[.slice a n c,.func (.func 240) #[] #[]] w fun e w'=>e = .returned (.int .i64 (-1)) ∧ w = w':=by
 have hn:=h.len
 have hlen : n ≤ 9223372036854775807:=by have:=le63 hn.2.2;omega
 have L:=Hd hn.1
 have H:=Hd h
 have M:=Hd (List.all_eq_true.1 hm)
 clear hn h hm
 go_enter Tryz.func285,Tryz.ntmps285
 go_wp2_with fail
 go_loop [8] (fun i=>∃ k : Nat,k ≤ n ∧ i = .int .i64 k) (fun i=>n - (intOf i).toNat)
 case atStart=>exact ⟨0,Nat.zero_le _,rfl⟩
 case round =>
  obtain ⟨k,hk,rfl⟩:=hrel
  by_cases hlt : k < n
  ·obtain ⟨x,hx⟩:=aH (l:=l) (j:=k) (by rw [← L.out];exact hlt)
   obtain ⟨b,off,rfl,hc⟩:=H.out.get (bG hx)
   have ck:=hc k x hx
   have mx:=Hd (M.out x (List.mem_of_getElem? hx))
   clear hc hx
   go_wp2_with (go_at_call 240;refine (markBad_c x mx.out _).mono ?_;rintro e w' ⟨rfl,rfl⟩)
   go_round
   case rel=>exact ⟨k + 1,by omega,by go_num⟩
   case measure=>simp [intOf];omega
  ·go_wp2_with fail
   go_ret
   exact ⟨rfl,rfl⟩
theorem containsFunc_c (l : List Int) (a : Option Addr) (n c : Nat) (w : World) (h : dF w l (.slice a n c)) (hm : l.all qA = true) :
  Calls Tryz.prog 239 #[.slice a n c,.func (.func 240) #[] #[]] w fun e w'=>e = .returned (.bool false) ∧ w = w':=by
 have H:=Hd h
 have M:=Hd hm
 clear h hm
 go_enter Tryz.func239,Tryz.ntmps239
 go_wp2_with (go_at_call 285;refine (indexFunc_c l _ _ _ _ H.out M.out).mono ?_;rintro e w' ⟨rfl,rfl⟩)
 go_ret
 exact ⟨rfl,rfl⟩
set_option maxHeartbeats 1600000 in
theorem shaped_c (p : Pf) (x : Value) (w : World) (hx : oO w p x) (h : kQ p.rule p.label p.sub.length p.marks = true) :
  Calls Tryz.prog 162 #[x] w (Rt (.bool true) w):=by
 obtain ⟨a,n,c,b,m,d,s,sn,sc,q,qn,qc,rfl,h1,h2,h3,h4⟩:=hx
 obtain ⟨rule,f,label,sub,marks⟩:=p
 simp only [Pf.rule,Pf.form,Pf.label,Pf.sub,Pf.marks] at *
 have hs:=h3.len
 have hq:=h4.len
 have hsl : sn ≤ 9223372036854775807:=by have:=le63 hs.2.2;omega
 have hql : qn ≤ 9223372036854775807:=by have:=le63 hq.2.2;omega
 unfold kQ at h
 by_cases r0 : rule = []
 ·subst r0
  simp only [if_true,Bool.and_eq_true,decide_eq_true_eq,List.isEmpty_iff] at h
  obtain ⟨⟨z1,z2⟩,z3,z4⟩:=h
  have e1 : sn = 0:=by omega
  have e2 : qn = 0:=by rw [hq.1,z2];rfl
  subst e1 e2
  have d1 : decide (1 ≤ label) = true:=by simpa using z3
  have d2 : decide (label ≤ 999) = true:=by simpa using z4
  clear hs hq h1 h2 h3 h4 z1 z2 z3 z4
  go_enter Tryz.func162,Tryz.ntmps162
  go_wp2_with fail
  go_ret
  exact ⟨rfl,bnew⟩
 ·by_cases r1 : rule = hole
  ·subst r1
   simp only [r0,if_true,if_false,Bool.and_eq_true,decide_eq_true_eq,List.isEmpty_iff] at h
   obtain ⟨⟨z1,z2⟩,z3⟩:=h
   have e1 : sn = 0:=by omega
   have e2 : qn = 0:=by rw [hq.1,z2];rfl
   subst e1 e2 z3
   clear hs hq h1 h2 h3 h4 z1 z2
   go_enter Tryz.func162,Tryz.ntmps162
   unfold hole
   go_wp2_with fail
   go_ret
   exact ⟨rfl,bnew⟩
  ·simp only [r0,r1,if_false,Bool.and_eq_true,decide_eq_true_eq] at h
   obtain ⟨⟨⟨⟨z1,z2⟩,z3⟩,z4⟩,z5⟩:=h
   subst z2
   have t0 : (rule == []) = false:=by simpa using r0
   have t1 : (rule == [63]) = false:=by simpa [hole] using r1
   have HZ:=Hd z1
   have HM:=Hd h4
   have L:=Hd hq.1
   have Z5:=Hd (List.all_eq_true.1 z5)
   have e1 : qn = sn:=by omega
   have k4 : sn ≤ 4:=by omega
   have k5 : decide (4 < (sn : Int)) = false:=by simp;omega
   subst e1
   have HQ:=Hd hq.1
   clear hs hq h1 h2 h3 h4 z1 z3 z4 z5 r0 r1
   have body : Hid (∀ z : Bool,((qn : Int) == 0) = z → Calls Tryz.prog 162 #[.agg #[str rule,.int .u8 f.op,str f.name,.slice a n c,.slice b m d,.int .i64 0,.slice s qn sc,.slice q qn qc]] w (Rt (.bool true) w)):=by
    intro z hz
    cases z
    all_goals
     go_enter Tryz.func162,Tryz.ntmps162
     go_wp2_with fail
     refine (isName_c rule HZ.out _).mono ?_
     rintro e w1 ⟨rfl,hb1⟩
     obtain ⟨hc1,hf1⟩:=fG hb1
     have B1:=Hd (bO hb1)
     have HM1:=Hd (HM.out.keep (aC B1.out))
     clear hb1
     go_wp2_with fail
     go_loop [66] (fun i=>∃ k : Nat,k ≤ qn ∧ i = .int .i64 k) (fun i=>qn - (intOf i).toNat)
     case atStart=>exact ⟨0,Nat.zero_le _,rfl⟩
     case round =>
      obtain ⟨k,hk,rfl⟩:=hrel
      by_cases hlt : k < qn
      ·obtain ⟨l,hl⟩:=aH (l:=marks) (j:=k) (by rw [← HQ.out];exact hlt)
       obtain ⟨b,off,rfl,hcs⟩:=HM1.out.get (bG hl)
       obtain ⟨y,yn,yc,ck,hy⟩:=hcs k l hl
       have ml:=Z5.out l (List.mem_of_getElem? hl)
       simp only [Bool.and_eq_true,decide_eq_true_eq] at ml
       have ML:=Hd ml.2
       have HY:=Hd hy
       have yl:=hy.len
       have y3 : decide (3 < (yn : Int)) = false:=by simp;omega
       clear hcs hl ml hy yl
       go_wp2_with (go_at_call 239;refine (containsFunc_c l _ _ _ _ HY.out ML.out).mono ?_;rintro e w' ⟨rfl,rfl⟩)
       go_round
       case rel=>exact ⟨k + 1,by omega,by go_num⟩
       case measure=>simp [intOf];omega
      ·go_wp2_with fail
       go_ret
       exact ⟨rfl,B1.out⟩
   exact body.out _ rfl
open Go Go.RowKit Ly
set_option maxHeartbeats 400000
structure fI (w : World) (b : Nat) (left : Int) : Prop where
 c0 : w.cell? ⟨b,0,none⟩ = some (.int .i64 left)
 fz : w.frozen? ⟨b,0,none⟩ = false
theorem fI.lt {w : World} {b : Nat} {left : Int} (h : fI w b left) : b < w.heap.size:=World.block_lt_of_cell? w _ h.c0
theorem fI.below {w w' : World} {b : Nat} {left : Int} (h : fI w b left) (k : Below w.heap.size w w') : fI w' b left:=by
 have hl:=h.lt
 exact ⟨(k.cell (p:=⟨b,0,none⟩) hl).trans h.c0,(k.frozen (p:=⟨b,0,none⟩) hl).trans h.fz⟩
theorem fI.set {w : World} {b : Nat} {left : Int} (h : fI w b left) (n : Int) : fI (w.setCell ⟨b,0,none⟩ (.int .i64 n)) b n:=by
 obtain ⟨c0,fz⟩:=h
 exact ⟨by simp [c0,go_sem],by simp [fz,go_sem]⟩
def Counted (w0 : World) (b : Nat) (left : Int) (w : World) (e : Ending) (w' : World) : Prop :=
 e = .returned (.bool true) ∧ Below w0.heap.size w0 w' ∧ fI w' b left ∧ But b w w'
def PfD (p : Pf) : Prop:=∀ (w0 w : World) (b : Nat) (left below : Int) (x : Value),gC w0 → oO w0 p x → Below w0.heap.size w0 w → w0.heap.size ≤ b → fI w b left → p.ok = true →
 (p.steps : Int) ≤ left → left ≤ 300 → 0 ≤ below → below + p.depth ≤ 40 → Calls Tryz.prog 87 #[x,.int .i64 below,.pointer (some ⟨b,0,none⟩)] w (Counted w0 b (left - p.steps) w)
theorem pfsSteps_drop {l : List Pf} {j : Nat} {T : Pf} (h : l[j]? = some T) : aV (l.drop j) = T.steps + aV (l.drop (j + 1)):=by
 obtain ⟨h1,rfl⟩:=List.getElem?_eq_some_iff.1 h
 rw [List.drop_eq_getElem_cons h1,aV]
theorem pfsSteps_drop_le (l : List Pf) (j : Nat) : aV (l.drop j) ≤ aV l:=by
 induction l generalizing j with
 | nil=>simp
 | cons x xs ih =>
  cases j with
  | zero=>simp
  | succ j=>simp only [List.drop_succ_cons,aV];have:=ih j;omega
theorem pfsDepth_mem {l : List Pf} : ∀ t ∈ l,t.depth + 1 ≤ mY l:=by
 induction l with
 | nil=>intro t ht;cases ht
 | cons x xs ih =>
  intro t ht
  simp only [mY]
  rcases List.mem_cons.1 ht with e | e
  ·rw [e];omega
  ·have:=ih t e;omega
theorem uM {l : List Pf} (h : uL l = true) : ∀ t ∈ l,t.ok = true:=(pfsOk_iff l).1 h
theorem yF {w0 w w2 : World} {b : Nat} {left : Int} (n : Int) {o : Obj} (hw : Below w0.heap.size w0 w) (hb : w0.heap.size ≤ b) (hj : fI w b left)
  (h : Below ((w.setCell ⟨b,0,none⟩ (.int .i64 n)).alloc o).heap.size ((w.setCell ⟨b,0,none⟩ (.int .i64 n)).alloc o) w2) : Below w0.heap.size w0 w2 ∧ fI w2 b n ∧ But b w w2:=by
 have k : But b w w2:=(But.set b w 0 none _).trans (But.of_below (bO h))
 exact ⟨k.below hw hb,(hj.set n).below (bO h),k⟩
set_option maxHeartbeats 1600000 in
theorem pf_step (r : Bs) (f : Fm) (lb : Int) (ps : List Pf) (ms : List (List Int)) (hh : ∀ p ∈ ps,PfD p) : PfD (.mk r f lb ps ms):=by
 intro w0 w b left below x hrows hx hw hb hj hok hn hl hd1 hd2
 have hx0:=hx
 obtain ⟨a,k,c,a',m,d,s,sn,sc,q,qn,qc,rfl,h1,h2,h3,h4⟩:=hx
 simp only [Pf.rule,Pf.form,Pf.label,Pf.sub,Pf.marks] at *
 have hs:=h3.len
 have hsl : sn ≤ 9223372036854775807:=by have:=le63 hs.2.2;omega
 simp only [Pf.ok,Bool.and_eq_true] at hok
 have hn' : (1 : Int) ≤ left:=by simp only [Pf.steps] at hn;omega
 have hbl : b < w.heap.size:=hj.lt
 have b1 : decide (left - 1 < 0) = false:=by simp;omega
 have b2 : decide (40 < below) = false:=by simp;omega
 have W1 : Hid (∀ o : Obj,Below w0.heap.size w0 ((w.setCell ⟨b,0,none⟩ (.int .i64 (left - 1))).alloc o) ∧ fI ((w.setCell ⟨b,0,none⟩ (.int .i64 (left - 1))).alloc o) b (left - 1) ∧ But b w ((w.setCell ⟨b,0,none⟩ (.int .i64 (left - 1))).alloc o)):=fun o =>
  yF (left - 1) hw hb hj (Below.refl _ _)
 have HR:=Hd hrows
 have HX:=Hd hx0
 have H1:=Hd h1
 have H2:=Hd h2
 have H3:=Hd h3
 have L3:=Hd hs.1
 have OK:=Hd hok
 have H:=Hd hh
 have hwo : Hid (Below w0.heap.size w0 w ∧ fI w b left):=⟨hw,hj⟩
 have HN : Hid ((aV ps : Int) ≤ left - 1 ∧ left - (Pf.mk r f lb ps ms).steps = left - 1 - aV ps ∧ below + mY ps ≤ 40):=by
  simp only [Pf.steps,Pf.depth] at *
  refine ⟨?_, ?_, ?_⟩ <;> omega
 have hbb : below ≤ 40:=by omega
 obtain ⟨jc,jf⟩:=hj
 clear hrows hx0 h1 h2 h3 h4 hs hok hh hn hd2 hw
 go_enter Tryz.func87,Tryz.ntmps87
 go_wp2_with fail
 refine (iQ f (.agg #[.int .u8 f.op,str f.name,.slice a k c,.slice a' m d]) _ (HR.out.keep (aC (W1.out _).1)) ⟨_,_,_,_,_,_,rfl,H1.out.keep (aC (W1.out _).1),H2.out.keep (aC (W1.out _).1)⟩ OK.out.1.1).mono ?_
 rintro e w1 ⟨rfl,hb1⟩
 obtain ⟨hc1,hf1⟩:=fG hb1
 have B1:=Hd hb1
 have hz1 : w.heap.size < w1.heap.size:=by have:=hb1.size;simp [World.setCell] at this;omega
 have K1 : Hid (Below w0.heap.size w0 w1):=(W1.out _).1.trans (hb1.mono (W1.out _).1.size)
 clear hb1
 go_wp2_with fail
 refine (shaped_c (.mk r f lb ps ms) _ _ (HX.out.keep (aC K1.out)) OK.out.1.2).mono ?_
 rintro e w2 ⟨rfl,hb2⟩
 obtain ⟨hc2,hf2⟩:=fG (aA B1.out hb2)
 have R : Hid (Below w0.heap.size w0 w2 ∧ fI w2 b (left - 1) ∧ But b w w2):=yF (left - 1) hwo.out.1 hb hwo.out.2 (aA B1.out hb2)
 clear hb2 hc1 hf1
 go_wp2_with fail
 clear hc2 hf2 B1 K1 W1 hz1
 go_loopw [36] (fun i wr=>∃ j : Nat,j ≤ sn ∧ i = .int .i64 j ∧ Hid (Below w0.heap.size w0 wr ∧ fI wr b (left - 1 - aV ps + aV (ps.drop j)) ∧ But b w wr)) (fun i _=>sn - (intOf i).toNat)
 case atStart=>exact ⟨0,Nat.zero_le _,rfl,R.out.1,by have:=R.out.2.1;simpa using this,R.out.2.2⟩
 case round =>
  obtain ⟨j,hj,rfl,hs⟩:=hrel
  by_cases hlt : j < sn
  ·obtain ⟨T,hT⟩:=aH (l:=ps) (j:=j) (by rw [← L3.out];exact hlt)
   obtain ⟨bb,off,rfl,hc⟩:=H3.out.get (bG hT)
   obtain ⟨xa,xn,xc,xb,xm,xd,xs,xsn,xsc,xq,xqn,xqc,hx⟩:=hc j _ hT
   have hK:=aC hs.out.1
   have c0:=hK _ _ hx.c0;have c1:=hK _ _ hx.c1;have c2:=hK _ _ hx.c2;have c3:=hK _ _ hx.c3
   have c4:=hK _ _ hx.c4;have c5:=hK _ _ hx.c5;have c6:=hK _ _ hx.c6;have c7:=hK _ _ hx.c7
   have X : Hid (oO w0 T (.agg #[str T.rule,.int .u8 T.form.op,str T.form.name,.slice xa xn xc,.slice xb xm xd,.int .i64 T.label,.slice xs xsn xsc,.slice xq xqn xqc])):=⟨_,_,_,_,_,_,_,_,_,_,_,_,rfl,hx.args,hx.parts,hx.sub,hx.marks⟩
   have HM:=Hd (List.mem_of_getElem? hT)
   have N1:=Hd (pfsSteps_drop hT)
   have N2:=Hd (pfsSteps_drop_le ps j)
   have D1:=Hd (pfsDepth_mem T HM.out)
   have hal : Hid (∀ o,Below w0.heap.size w0 (wr.alloc o) ∧ fI (wr.alloc o) b (left - 1 - aV ps + aV (ps.drop j)) ∧ But b w (wr.alloc o)):=fun o=>by
    have hb1 : Below wr.heap.size wr (wr.alloc o):=bnew
    exact ⟨hs.out.1.trans (hb1.mono hs.out.1.size),hs.out.2.1.below hb1,hs.out.2.2.trans (But.of_below hb1)⟩
   clear hc hx hT hK
   go_wp2_with fail
   refine (H.out T HM.out w0 _ b _ (below + 1) _ HR.out X.out (hal.out _).1 hb (hal.out _).2.1 (uM OK.out.2 T HM.out) (by have:=N1.out;have:=HN.out;omega) (by have:=N2.out;have:=HN.out;omega) (by omega) (by have:=D1.out;have:=HN.out.2.2;omega)).mono ?_
   rintro e w3 ⟨rfl,r1,r2,r3⟩
   have R3 : Hid (Below w0.heap.size w0 w3 ∧ fI w3 b (left - 1 - aV ps + aV (ps.drop (j + 1))) ∧ But b w w3) :=
    ⟨r1,by have e:=N1.out;rw [e] at r2;rw [show left - 1 - (aV ps : Int) + (aV (ps.drop (j + 1)) : Int) = left - 1 - aV ps + ((T.steps + aV (ps.drop (j + 1)) : Nat) : Int) - T.steps by omega];exact r2,(hal.out _).2.2.trans r3⟩
   clear r1 r2 r3
   go_wp2_with fail
   go_roundw
   case rel=>exact ⟨j + 1,by omega,by go_num,R3⟩
   case measure=>simp [intOf];omega
  ·go_wp2_with fail
   go_ret
   have e : ps.drop j = []:=List.drop_of_length_le (by rw [← L3.out];omega)
   have h2:=hs.out.2.1
   rw [e] at h2
   exact ⟨rfl,hs.out.1,by rw [HN.out.2.1];simpa [aV] using h2,hs.out.2.2⟩
mutual
theorem zL : ∀ t : Pf,PfD t
 | .mk r f l ps ms=>pf_step r f l ps ms (zK ps)
theorem zK : ∀ l : List Pf,∀ t ∈ l,PfD t
 | [],_,h=>by cases h
 | x :: xs,t,h=>by
  rcases List.mem_cons.1 h with e | e
  ·rw [e];exact zL x
  ·exact zK xs t e
end
end Go.Proofs.YtcandidgaegghaaGreatDoor
