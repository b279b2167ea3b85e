/- Contract of describe.Claim at right formulas. -/
import Derived.Test.YtcandidgaegghaaGreatDoorCpZ
import Derived.Test.YtcandidgaegghaaGreatDoorSameBZ
import Derived.Test.YtcandidgaegghaaGreatDoorPlBZ
import Derived.Test.YtcandidgaegghaaGreatDoorRightZ
import Derived.Laws.IdiomStrings
set_option maxRecDepth 10000
set_option linter.unusedSimpArgs false
set_option linter.unusedVariables false
namespace Go.Proofs.YtcandidgaegghaaGreatDoor
open Go Go.RowKit Ly
theorem aI.below {B : Nat} {w w' : World} {l : List Bs} {v : Value} (h : aI B w l v) (hb : Below w.heap.size w w') : aI B w' l v:=by
 obtain ⟨h1,h2⟩:=h
 refine ⟨h1, ?_⟩
 rcases h2 with h2 | ⟨g,cap,cur,e,hB,hg,r⟩
 ·exact .inl h2
 ·refine .inr ⟨g,cap,cur,e,hB, ?_,r⟩
  rw [hb.block g (Array.getElem?_eq_some_iff.1 hg).1];exact hg
theorem KG (x : Array UInt8) (y : Bs) : Value.string (⟨x⟩ ++ ⟨y.toArray⟩) = str (x.toList ++ y):=by
 show Value.string _ = Value.string _
 rw [bF];congr 2;simp
theorem xS {α β : Type} (f : α → β) {l : List α} {j : Nat} {x : α} (h : l[j]? = some x) : (l.take (j + 1)).map f = (l.take j).map f ++ [f x]:=by
 rw [List.take_add_one,h];simp
theorem DJ (sep : Bs) : ∀ l : List Bs,Lib.join l sep = aT sep l
 | []=>rfl
 | [x]=>by simp [Lib.join,aT]
 | x :: y :: r=>by
  have:=DJ sep (y :: r)
  simp [Lib.join,aT] at this ⊢
  exact this
theorem xK {B : Nat} {w : World} {l : List Bs} {v : Value} (sep : Bs) (h : aI B w l v) (h1 : l.length ≤ 1000000) (h2 : (aT sep l).length ≤ 140737488355328) :
  Calls Tryz.prog 37 #[v,.string ⟨sep.toArray⟩] w (Rt (str (aT sep l)) w):=by
 obtain ⟨a,n,c,rfl⟩:=h.strsAt.slice
 have hl:=h.strsAt.len
 by_cases hne : l = []
 ·subst hne
  have h0 : n = 0:=hl.1
  subst h0
  refine (Tryz.strings_Join_none a c ⟨sep.toArray⟩ w).mono ?_
  rintro e w' ⟨rfl,rfl⟩
  exact ⟨rfl,Below.refl _ _⟩
 obtain ⟨b,off,rfl,hc⟩:=h.strsAt.get hne
 have e : (l.map (fun x : Bs=>(⟨x.toArray⟩ : ByteArray))).map (·.data.toList) = l:=by simp [List.map_map,Function.comp_def]
 have hx:=Tryz.strings_Join b off c (l.map (fun x : Bs=>(⟨x.toArray⟩ : ByteArray))) ⟨sep.toArray⟩ w
  (fun j x hj=>by
   rw [List.getElem?_map] at hj
   obtain ⟨y,hy,rfl⟩:=Option.map_eq_some_iff.1 hj
   exact hc j y hy)
  (by
   obtain ⟨x,hx⟩:=List.exists_mem_of_ne_nil l hne
   obtain ⟨j,hj⟩:=List.getElem?_of_mem hx
   exact World.block_lt_of_cell? w _ (hc j x hj))
  (by simp;omega) (by simp;have:=hl.1;omega) (by rw [e];show (Lib.join l sep).length ≤ _;rw [DJ];exact h2)
 rw [e,List.length_map,← hl.1] at hx
 refine hx.mono ?_
 rintro e w' ⟨rfl,h⟩
 refine ⟨?_,h⟩
 show Ending.returned (.string ⟨(Lib.join l sep).toArray⟩) = _
 rw [DJ]
theorem pZ (sep : Bs) (hs : sep.length ≤ 10) : ∀ (l : List Bs) (_ : ∀ x ∈ l,x.length ≤ 1000000),(aT sep l).length ≤ l.length * 1000010
 | [],_=>by simp [aT]
 | [x],h=>by have:=h x (by simp);simp [aT];omega
 | x :: y :: r,h=>by
  have h1:=h x (by simp)
  have h2:=pZ sep hs (y :: r) (fun z hz=>h z (by simp at hz ⊢;right;exact hz))
  simp only [aT,List.length_append,List.length_cons] at h2 ⊢
  omega
theorem iW {f : Fm} (h : f.right = true) : f.words.length ≤ 1000000 ∧ f.text.length ≤ 1000000:=by have:=gZ h;exact ⟨by omega,by omega⟩
theorem claim_len {G S : List Fm} (hG : ∀ g ∈ G,g.right = true) (hS : ∀ g ∈ S,g.right = true) (hlen : G.length + S.length ≤ 1000) :
  (fT G S).length ≤ 1000000 ∧ (aT [44,32] (fT G S)).length ≤ 140737488355328:=by
 have h1 : (fT G S).length ≤ 1000:=by simp [fT];omega
 have h2:=pZ [44,32] (by decide) (fT G S) (fun x hx=>by
  unfold fT at hx
  rcases List.mem_append.1 hx with h | h
  ·obtain ⟨g,hg,rfl⟩:=List.mem_map.1 h
   have:=(gZ (hG g hg)).2;simp [gT];omega
  ·obtain ⟨g,hg,rfl⟩:=List.mem_map.1 h
   have:=(gZ (hS g hg)).2;simp [qZ];omega)
 have h3 : (fT G S).length * 1000010 ≤ 1000 * 1000010:=Nat.mul_le_mul_right _ h1
 omega
set_option linter.unusedSimpArgs false in
set_option maxRecDepth 4000 in
set_option maxHeartbeats 1600000 in
theorem Claim_c (G S : List Fm) (hG : ∀ g ∈ G,g.right = true) (hS : ∀ g ∈ S,g.right = true) (hlen : G.length + S.length ≤ 1000) (x : Value) (w : World) (hr : dV w) (hx : SqVal w G S x) :
  Calls Tryz.prog 22 #[x] w (Rt (.tuple #[str (tT G S),.int .i64 0]) w):=by
 obtain ⟨a,k,c,a',m,d,rfl,h1,h2⟩:=hx
 have hk:=h1.len
 have hm:=h2.len
 have hkl : k ≤ 1000:=by omega
 have hml : m ≤ 1000:=by omega
 have L1:=Hd hk.1
 have L2:=Hd hm.1
 have HX:=Hd h1
 have HY:=Hd h2
 have HR:=Hd hr
 have HG:=Hd hG
 have HS:=Hd hS
 have HL:=Hd hlen
 clear hk hm h1 h2 hr hG hS hlen
 obtain ⟨i0,hi0,hz0,hs0,hb0⟩:=info_parts sP
 go_enter Tryz.func22,Tryz.ntmps22
 go_wp2_with fail
 have WB : Hid (Below w.heap.size w (w.alloc (.cells #[.slice a k c,.slice a' m d] 48))):=bnew
 have WK:=Hd (bH w (.cells #[.slice a k c,.slice a' m d] 48))
 have E1 : Hid ((w.alloc (.cells #[.slice a k c,.slice a' m d] 48)).cell? ⟨w.heap.size,1,none⟩ = some (.slice a' m d)):=by show _ = _;simp [go_sem]
 generalize hW : w.alloc (.cells #[.slice a k c,.slice a' m d] 48) = W0 at *
 have HX:=Hd (HX.out.keep WK.out)
 have HY:=Hd (HY.out.keep WK.out)
 have HR:=Hd (HR.out.keep WK.out)
 clear hW
 go_loopw [4,12] (fun u i wr=>∃ j : Nat,j ≤ k ∧ i = .int .i64 j ∧ Hid (aI W0.heap.size wr ((G.take j).map (fun g=>gT ++ g.text)) u ∧ Below W0.heap.size W0 wr)) (fun _ i _=>k - (intOf i).toNat)
 case atStart=>exact ⟨0,Nat.zero_le _,rfl,World.ownsRow_nil _ _ _ _,Below.refl _ _⟩
 case round =>
  obtain ⟨j,hj,rfl,hr⟩:=hrel
  by_cases hlt : j < k
  ·obtain ⟨T,hT⟩:=aF (l:=G) (j:=j) (by rw [← L1.out];exact hlt)
   obtain ⟨b,off,rfl,hc⟩:=HX.out.get (aJ hT)
   obtain ⟨x0,x1,x2,y0,y1,y2,hx⟩:=hc j _ hT
   have hK:=aA hr.out.2
   have c0:=hK _ _ hx.c0;have c1:=hK _ _ hx.c1;have c2:=hK _ _ hx.c2;have c3:=hK _ _ hx.c3
   have X:=Hd (hx.at_.keep hK)
   have Y:=Hd (hx.at'.keep hK)
   have RT:=Hd (HG.out T (List.mem_of_getElem? hT))
   have RW:=Hd (HR.out.keep hK)
   have OWN:=Hd hr.out.1
   have BLW:=Hd hr.out.2
   have hT:=Hd hT
   clear hc hx hK hr
   go_wp2_with fail
   refine (gU T (.agg #[.int .u8 T.op,str T.name,.slice x0 x1 x2,.slice y0 y1 y2]) _ (RW.out.keep (bH _ _)) ⟨_,_,_,_,_,_,rfl,X.out.keep (bH _ _),Y.out.keep (bH _ _)⟩ RT.out).mono ?_
   rintro e w1 ⟨rfl,b1⟩
   obtain ⟨hc1,hf1⟩:=eP b1
   have B1:=Hd b1
   have K1 : Hid (aR wr w1):=aA (bB b1)
   go_wp2_with fail
   refine (uO T (fD RT.out) (iW RT.out) _ _ _ _ _ _ _ (X.out.keep K1.out) (Y.out.keep K1.out)).mono ?_
   rintro e w2 ⟨rfl,b2⟩
   have B2:=Hd (aB (bB B1.out) b2)
   have TL:=Hd (gZ RT.out).2
   have tl : T.text.length ≤ 1000000:=by have:=TL.out;omega
   have OWN2:=Hd (aI.below OWN.out B2.out)
   have BL2:=Hd (BLW.out.trans (B2.out.mono BLW.out.size))
   have M1:=Hd (xS (fun g : Fm=>gT ++ g.text) hT.out)
   have LE : Hid (((G.take j).map (fun g : Fm=>gT ++ g.text)).length ≤ 1000):=by show _ ≤ _;simp only [List.length_append,List.length_map,List.length_take];have:=L1.out;have:=L1.out;have:=L2.out;have:=HL.out;omega
   have E2 : Hid ((G.take (j + 1)).map (fun g : Fm=>gT ++ g.text) = ((G.take j).map (fun g : Fm=>gT ++ g.text)) ++ [gT ++ T.text]):=by show _ = _;rw [M1.out]
   generalize (G.take j).map (fun g : Fm=>gT ++ g.text) = M at *
   have C3 : Hid (M.length + 1 ≤ maxLen ∧ (M.length + 1) * 16 ≤ 140737488355328):=by
    have h1:=LE.out
    exact ⟨by unfold maxLen;omega,by omega⟩
   have C6 : Hid (W0.heap.size ≤ (w2.alloc (.cells #[.string (⟨#[103,105,118,101,110,32]⟩ ++ ⟨T.text.toArray⟩)] 9)).heap.size):=by
    have:=BL2.out.size;show _ ≤ _;simp;omega
   go_wp2_with (at_builtin;refine wpList_append_own _ rfl _ _ 36 rfl W0.heap.size 9 i0 (.string ⟨#[]⟩) 1 16 Tryz.underlying36 hi0 hz0 hs0 hb0 rfl (by decide) _ _ _ rfl (OWN2.out.alloc _) ⟨w2.heap.size,0,none⟩ 1 1 [.string (⟨#[103,105,118,101,110,32]⟩ ++ ⟨T.text.toArray⟩)] rfl rfl (cell_one_new _ _ _) (by intro u hu;simp at hu;subst hu;rfl) C3.out.1 C3.out.2 C6.out ?_)
   intro v' w3 hown2 hg2 _
   have R : Hid (aI W0.heap.size w3 ((G.take (j + 1)).map (fun g : Fm=>gT ++ g.text)) v' ∧ Below W0.heap.size W0 w3):=by
    refine ⟨?_,(BL2.out.alloc BL2.out.size _).grown hg2 C6.out (fun kk hkk=>(OWN2.out.lt kk hkk).1)⟩
    rw [E2.out]
    unfold aI
    rw [List.length_append,List.map_append]
    rw [KG] at hown2
    exact hown2
   clear hown2 hg2
   go_wp2_with fail
   go_roundw
   case rel=>exact ⟨j + 1,by omega,by go_num,R⟩
   case measure=>simp [intOf];omega
  ·have e : G.take j = G:=List.take_of_length_le (by rw [← L1.out];omega)
   have HO : Hid (aI W0.heap.size wr (G.map (fun g=>gT ++ g.text)) u4):=by have:=hr.out.1;rw [e] at this;exact this
   have HB:=Hd hr.out.2
   have f1:=aA hr.out.2 _ _ E1.out
   clear hr e
   go_wp2_with fail
   go_loopw [4,29] (fun u i wr=>∃ j : Nat,j ≤ m ∧ i = .int .i64 j ∧ Hid (aI W0.heap.size wr (G.map (fun g=>gT ++ g.text) ++ (S.take j).map (fun g=>qZ ++ g.text)) u ∧ Below W0.heap.size W0 wr)) (fun _ i _=>m - (intOf i).toNat)
   case atStart=>exact ⟨0,Nat.zero_le _,rfl,by simpa using HO.out,HB.out⟩
   case round =>
    obtain ⟨j,hj,rfl,hr⟩:=hrel
    by_cases hlt : j < m
    ·obtain ⟨T,hT⟩:=aF (l:=S) (j:=j) (by rw [← L2.out];exact hlt)
     obtain ⟨b,off,rfl,hc⟩:=HY.out.get (aJ hT)
     obtain ⟨x0,x1,x2,y0,y1,y2,hx⟩:=hc j _ hT
     have hK:=aA hr.out.2
     have c0:=hK _ _ hx.c0;have c1:=hK _ _ hx.c1;have c2:=hK _ _ hx.c2;have c3:=hK _ _ hx.c3
     have X:=Hd (hx.at_.keep hK)
     have Y:=Hd (hx.at'.keep hK)
     have RT:=Hd (HS.out T (List.mem_of_getElem? hT))
     have RW:=Hd (HR.out.keep hK)
     have OWN:=Hd hr.out.1
     have BLW:=Hd hr.out.2
     have hT:=Hd hT
     clear hc hx hK hr
     go_wp2_with fail
     refine (gU T (.agg #[.int .u8 T.op,str T.name,.slice x0 x1 x2,.slice y0 y1 y2]) _ (RW.out.keep (bH _ _)) ⟨_,_,_,_,_,_,rfl,X.out.keep (bH _ _),Y.out.keep (bH _ _)⟩ RT.out).mono ?_
     rintro e w1 ⟨rfl,b1⟩
     obtain ⟨hc1,hf1⟩:=eP b1
     have B1:=Hd b1
     have K1 : Hid (aR wr w1):=aA (bB b1)
     go_wp2_with fail
     refine (uO T (fD RT.out) (iW RT.out) _ _ _ _ _ _ _ (X.out.keep K1.out) (Y.out.keep K1.out)).mono ?_
     rintro e w2 ⟨rfl,b2⟩
     have B2:=Hd (aB (bB B1.out) b2)
     have TL:=Hd (gZ RT.out).2
     have tl : T.text.length ≤ 1000000:=by have:=TL.out;omega
     have OWN2:=Hd (aI.below OWN.out B2.out)
     have BL2:=Hd (BLW.out.trans (B2.out.mono BLW.out.size))
     have M1:=Hd (xS (fun g : Fm=>qZ ++ g.text) hT.out)
     have LE : Hid ((G.map (fun g=>gT ++ g.text) ++ (S.take j).map (fun g : Fm=>qZ ++ g.text)).length ≤ 1000):=by show _ ≤ _;simp only [List.length_append,List.length_map,List.length_take];have:=L2.out;have:=L1.out;have:=L2.out;have:=HL.out;omega
     have E2 : Hid (G.map (fun g=>gT ++ g.text) ++ (S.take (j + 1)).map (fun g : Fm=>qZ ++ g.text) = (G.map (fun g=>gT ++ g.text) ++ (S.take j).map (fun g : Fm=>qZ ++ g.text)) ++ [qZ ++ T.text]):=by show _ = _;rw [M1.out];rw [List.append_assoc]
     generalize G.map (fun g=>gT ++ g.text) ++ (S.take j).map (fun g : Fm=>qZ ++ g.text) = M at *
     have C3 : Hid (M.length + 1 ≤ maxLen ∧ (M.length + 1) * 16 ≤ 140737488355328):=by
      have h1:=LE.out
      exact ⟨by unfold maxLen;omega,by omega⟩
     have C6 : Hid (W0.heap.size ≤ (w2.alloc (.cells #[.string (⟨#[115,104,111,119,32]⟩ ++ ⟨T.text.toArray⟩)] 9)).heap.size):=by
      have:=BL2.out.size;show _ ≤ _;simp;omega
     go_wp2_with (at_builtin;refine wpList_append_own _ rfl _ _ 36 rfl W0.heap.size 9 i0 (.string ⟨#[]⟩) 1 16 Tryz.underlying36 hi0 hz0 hs0 hb0 rfl (by decide) _ _ _ rfl (OWN2.out.alloc _) ⟨w2.heap.size,0,none⟩ 1 1 [.string (⟨#[115,104,111,119,32]⟩ ++ ⟨T.text.toArray⟩)] rfl rfl (cell_one_new _ _ _) (by intro u hu;simp at hu;subst hu;rfl) C3.out.1 C3.out.2 C6.out ?_)
     intro v' w3 hown2 hg2 _
     have R : Hid (aI W0.heap.size w3 (G.map (fun g=>gT ++ g.text) ++ (S.take (j + 1)).map (fun g : Fm=>qZ ++ g.text)) v' ∧ Below W0.heap.size W0 w3):=by
      refine ⟨?_,(BL2.out.alloc BL2.out.size _).grown hg2 C6.out (fun kk hkk=>(OWN2.out.lt kk hkk).1)⟩
      rw [E2.out]
      unfold aI
      rw [List.length_append,List.map_append]
      rw [KG] at hown2
      exact hown2
     clear hown2 hg2
     go_wp2_with fail
     go_roundw
     case rel=>exact ⟨j + 1,by omega,by go_num,R⟩
     case measure=>simp [intOf];omega
    ·have e : S.take j = S:=List.take_of_length_le (by rw [← L2.out];omega)
     have HO2 : Hid (aI W0.heap.size wr (fT G S) u4):=by have:=hr.out.1;rw [e] at this;exact this
     have HB2:=Hd hr.out.2
     have CL:=Hd (claim_len HG.out HS.out HL.out)
     clear hr e
     go_wp2_with fail
     refine (xK [44,32] HO2.out CL.out.1 CL.out.2).mono ?_
     rintro e w2 ⟨rfl,b2⟩
     have R:=Hd (WB.out.trans ((HB2.out.trans (b2.mono HB2.out.size)).mono WB.out.size))
     clear b2
     go_wp2_with fail
     exact bodyPost_ret (v:=.tuple #[str (tT G S),.int .i64 0]) (by simp [results,Tryz.results22,go_sem,tT]) rfl ⟨rfl,R.out⟩
open Go Go.RowKit Ly
set_option maxHeartbeats 400000
theorem wZ (s : Bs) (w : World) : ∃ w1 cap,(convert 9 43 (str s)).run Tryz.prog w = .ok (.slice (some ⟨w.heap.size,0,none⟩) s.length cap) w1 ∧ Below w.heap.size w w1 ∧
  ∀ (j : Nat) (x : UInt8),s[j]? = some x → w1.cell? ⟨w.heap.size,j,none⟩ = some (.int .u8 x.toNat):=by
 have h:=run_bytes_of_string (P:=Tryz.prog) w 9 43 5 ⟨s.toArray⟩ Tryz.underlying9 Tryz.underlying43 Tryz.underlying5
 refine ⟨_,_,h, ?_, ?_⟩
 ·have:=((Below.refl w.heap.size w).drew).alloc (Nat.le_refl _) (.cells (bytesRow ⟨s.toArray⟩ (grownCap w s.length 0 5)) 5 ((bytesRow ⟨s.toArray⟩ (grownCap w s.length 0 5)).size,(bytesRow ⟨s.toArray⟩ (grownCap w s.length 0 5)).size + 1))
  exact this
 ·intro j x hx
  have hj:=(List.getElem?_eq_some_iff.1 hx).1
  simp [go_sem,bytesRow]
  unfold World.cell?
  simp only [World.alloc]
  simp
  rw [Array.getElem?_append_left (by simpa using hj)]
  simp [hx]
theorem sA {c : UInt8} (h : bR c = true) : (97 ≤ c.toNat ∧ c.toNat ≤ 122) ∨ (65 ≤ c.toNat ∧ c.toNat ≤ 90) ∨ (48 ≤ c.toNat ∧ c.toNat ≤ 57):=by
 simp only [bR,small,cZ,digit,Bool.or_eq_true,Bool.and_eq_true,decide_eq_true_eq,UInt8.le_iff_toNat_le] at h
 simp at h;omega
theorem FB (s : Bs) (h : bU s = true) (w : World) : Calls Tryz.prog 238 #[str s] w (Rt (.bool true) w):=by
 cases s with
 | nil=>simp [bU] at h
 | cons c r =>
  have ha:=vR h
  simp only [bU,Bool.and_eq_true,decide_eq_true_eq,Bool.or_eq_true] at h
  have hl : r.length ≤ 15:=by omega
  have d1 : decide ((r.length : Int) + 1 < 1) = false:=by simp;omega
  have d2 : decide (16 < (r.length : Int) + 1) = false:=by simp;omega
  have e0 : (⟨(c :: r).toArray⟩ : ByteArray)[0]'(by simp [ByteArray.size]) = c:=rfl
  obtain ⟨w1,cap,hrun,hb1,hcells⟩:=wZ (c :: r) w
  have HB:=Hd hb1
  have HC:=Hd hcells
  have AL:=Hd ha
  have hc : (c.toNat < 48) ∨ (57 < c.toNat):=by
   have:=h.1.2
   simp only [small,cZ,Bool.and_eq_true,decide_eq_true_eq,UInt8.le_iff_toNat_le] at this
   simp at this;omega
  clear h ha hb1 hcells
  rcases hc with hc | hc
  ·have d3 : decide ((48 : Int) ≤ c.toNat) = false:=by simp;omega
   go_enter Tryz.func238,Tryz.ntmps238
   go_wp2_with fail
   go_loop [26] (fun i=>∃ k : Nat,k ≤ r.length + 1 ∧ i = .int .i64 k) (fun i=>r.length + 1 - (intOf i).toNat)
   case atStart=>exact ⟨0,Nat.zero_le _,rfl⟩
   case round =>
    obtain ⟨k,hk,rfl⟩:=hrel
    by_cases hlt : k < r.length + 1
    ·obtain ⟨x,hx⟩:=aF (l:=c :: r) (j:=k) (by simpa using hlt)
     have ck:=HC.out k x hx
     have hx2:=sA (AL.out x (List.mem_of_getElem? hx))
     clear hx
     rcases hx2 with ⟨q1,q2⟩ | ⟨q1,q2⟩ | ⟨q1,q2⟩
     all_goals
      go_wp2_with fail
      go_round
      case rel=>exact ⟨k + 1,by omega,by go_num⟩
      case measure=>simp [intOf];omega
    ·go_wp2_with fail
     go_ret
     exact ⟨rfl,HB.out⟩
  ·have d3 : decide ((c.toNat : Int) ≤ 57) = false:=by simp;omega
   have q:=Nat.lt_trans (by decide : 48 < 57) hc
   go_enter Tryz.func238,Tryz.ntmps238
   go_wp2_with fail
   go_loop [26] (fun i=>∃ k : Nat,k ≤ r.length + 1 ∧ i = .int .i64 k) (fun i=>r.length + 1 - (intOf i).toNat)
   case atStart=>exact ⟨0,Nat.zero_le _,rfl⟩
   case round =>
    obtain ⟨k,hk,rfl⟩:=hrel
    by_cases hlt : k < r.length + 1
    ·obtain ⟨x,hx⟩:=aF (l:=c :: r) (j:=k) (by simpa using hlt)
     have ck:=HC.out k x hx
     have hx2:=sA (AL.out x (List.mem_of_getElem? hx))
     clear hx
     rcases hx2 with ⟨q1,q2⟩ | ⟨q1,q2⟩ | ⟨q1,q2⟩
     all_goals
      go_wp2_with fail
      go_round
      case rel=>exact ⟨k + 1,by omega,by go_num⟩
      case measure=>simp [intOf];omega
    ·go_wp2_with fail
     go_ret
     exact ⟨rfl,HB.out⟩
open Go Go.RowKit Ly
set_option maxHeartbeats 400000
theorem AQ (n : Int) (h : cN n = true) (w : World) : Calls Tryz.prog 240 #[.int .i64 n] w fun e w'=>e = .returned (.bool false) ∧ w = w':=by
 simp only [cN,decide_eq_true_eq] at h
 have d1 : decide (n < 0) = false:=by simp;omega
 have d2 : decide (999 < n) = false:=by simp;omega
 go_enter Tryz.func240,Tryz.ntmps240
 go_wp2_with fail
 go_ret
 exact ⟨rfl,rfl⟩
theorem indexFunc_c (l : List Int) (a : Option Addr) (n c : Nat) (w : World) (h : dZ w l (.slice a n c)) (hm : l.all cN = true) :
  Calls Tryz.prog 285 #[.slice a n c,.func (.func 240) #[] #[]] w fun e w'=>e = .returned (.int .i64 (-1)) ∧ w = w':=by
 have hn:=h.len
 have hlen : n ≤ 9223372036854775807:=by have:=le63 hn.2.2;omega
 have L:=Hd hn.1
 have H:=Hd h
 have M:=Hd (List.all_eq_true.1 hm)
 clear hn h hm
 go_enter Tryz.func285,Tryz.ntmps285
 go_wp2_with fail
 go_loop [8] (fun i=>∃ k : Nat,k ≤ n ∧ i = .int .i64 k) (fun i=>n - (intOf i).toNat)
 case atStart=>exact ⟨0,Nat.zero_le _,rfl⟩
 case round =>
  obtain ⟨k,hk,rfl⟩:=hrel
  by_cases hlt : k < n
  ·obtain ⟨x,hx⟩:=aF (l:=l) (j:=k) (by rw [← L.out];exact hlt)
   obtain ⟨b,off,rfl,hc⟩:=H.out.get (aJ hx)
   have ck:=hc k x hx
   have mx:=Hd (M.out x (List.mem_of_getElem? hx))
   clear hc hx
   go_wp2_with (go_at_call 240;refine (AQ x mx.out _).mono ?_;rintro e w' ⟨rfl,rfl⟩)
   go_round
   case rel=>exact ⟨k + 1,by omega,by go_num⟩
   case measure=>simp [intOf];omega
  ·go_wp2_with fail
   go_ret
   exact ⟨rfl,rfl⟩
theorem oL (l : List Int) (a : Option Addr) (n c : Nat) (w : World) (h : dZ w l (.slice a n c)) (hm : l.all cN = true) :
  Calls Tryz.prog 239 #[.slice a n c,.func (.func 240) #[] #[]] w fun e w'=>e = .returned (.bool false) ∧ w = w':=by
 have H:=Hd h
 have M:=Hd hm
 clear h hm
 go_enter Tryz.func239,Tryz.ntmps239
 go_wp2_with (go_at_call 285;refine (indexFunc_c l _ _ _ _ H.out M.out).mono ?_;rintro e w' ⟨rfl,rfl⟩)
 go_ret
 exact ⟨rfl,rfl⟩
set_option maxHeartbeats 1600000 in
theorem GH (p : Pf) (x : Value) (w : World) (hx : cU w p x) (h : dF p.rule p.label p.sub.length p.marks = true) :
  Calls Tryz.prog 162 #[x] w (Rt (.bool true) w):=by
 obtain ⟨a,n,c,b,m,d,s,sn,sc,q,qn,qc,rfl,h1,h2,h3,h4⟩:=hx
 obtain ⟨rule,f,label,sub,marks⟩:=p
 simp only [Pf.rule,Pf.form,Pf.label,Pf.sub,Pf.marks] at *
 have hs:=h3.len
 have hq:=h4.len
 have hsl : sn ≤ 9223372036854775807:=by have:=le63 hs.2.2;omega
 have hql : qn ≤ 9223372036854775807:=by have:=le63 hq.2.2;omega
 unfold dF at h
 by_cases r0 : rule = []
 ·subst r0
  simp only [if_true,Bool.and_eq_true,decide_eq_true_eq,List.isEmpty_iff] at h
  obtain ⟨⟨z1,z2⟩,z3,z4⟩:=h
  have e1 : sn = 0:=by omega
  have e2 : qn = 0:=by rw [hq.1,z2];rfl
  subst e1 e2
  have d1 : decide (1 ≤ label) = true:=by simpa using z3
  have d2 : decide (label ≤ 999) = true:=by simpa using z4
  clear hs hq h1 h2 h3 h4 z1 z2 z3 z4
  go_enter Tryz.func162,Tryz.ntmps162
  go_wp2_with fail
  go_ret
  exact ⟨rfl,bnew⟩
 ·by_cases r1 : rule = hole
  ·subst r1
   simp only [r0,if_true,if_false,Bool.and_eq_true,decide_eq_true_eq,List.isEmpty_iff] at h
   obtain ⟨⟨z1,z2⟩,z3⟩:=h
   have e1 : sn = 0:=by omega
   have e2 : qn = 0:=by rw [hq.1,z2];rfl
   subst e1 e2 z3
   clear hs hq h1 h2 h3 h4 z1 z2
   go_enter Tryz.func162,Tryz.ntmps162
   unfold hole
   go_wp2_with fail
   go_ret
   exact ⟨rfl,bnew⟩
  ·simp only [r0,r1,if_false,Bool.and_eq_true,decide_eq_true_eq] at h
   obtain ⟨⟨⟨⟨z1,z2⟩,z3⟩,z4⟩,z5⟩:=h
   subst z2
   have t0 : (rule == []) = false:=by simpa using r0
   have t1 : (rule == [63]) = false:=by simpa [hole] using r1
   have HZ:=Hd z1
   have HM:=Hd h4
   have L:=Hd hq.1
   have Z5:=Hd (List.all_eq_true.1 z5)
   have e1 : qn = sn:=by omega
   have k4 : sn ≤ 4:=by omega
   have k5 : decide (4 < (sn : Int)) = false:=by simp;omega
   subst e1
   have HQ:=Hd hq.1
   clear hs hq h1 h2 h3 h4 z1 z3 z4 z5 r0 r1
   have body : Hid (∀ z : Bool,((qn : Int) == 0) = z → Calls Tryz.prog 162 #[.agg #[str rule,.int .u8 f.op,str f.name,.slice a n c,.slice b m d,.int .i64 0,.slice s qn sc,.slice q qn qc]] w (Rt (.bool true) w)):=by
    intro z hz
    cases z
    all_goals
     go_enter Tryz.func162,Tryz.ntmps162
     go_wp2_with fail
     refine (FB rule HZ.out _).mono ?_
     rintro e w1 ⟨rfl,hb1⟩
     obtain ⟨hc1,hf1⟩:=eP hb1
     have B1:=Hd (bB hb1)
     have HM1:=Hd (HM.out.keep (aA B1.out))
     clear hb1
     go_wp2_with fail
     go_loop [66] (fun i=>∃ k : Nat,k ≤ qn ∧ i = .int .i64 k) (fun i=>qn - (intOf i).toNat)
     case atStart=>exact ⟨0,Nat.zero_le _,rfl⟩
     case round =>
      obtain ⟨k,hk,rfl⟩:=hrel
      by_cases hlt : k < qn
      ·obtain ⟨l,hl⟩:=aF (l:=marks) (j:=k) (by rw [← HQ.out];exact hlt)
       obtain ⟨b,off,rfl,hcs⟩:=HM1.out.get (aJ hl)
       obtain ⟨y,yn,yc,ck,hy⟩:=hcs k l hl
       have ml:=Z5.out l (List.mem_of_getElem? hl)
       simp only [Bool.and_eq_true,decide_eq_true_eq] at ml
       have ML:=Hd ml.2
       have HY:=Hd hy
       have yl:=hy.len
       have y3 : decide (3 < (yn : Int)) = false:=by simp;omega
       clear hcs hl ml hy yl
       go_wp2_with (go_at_call 239;refine (oL l _ _ _ _ HY.out ML.out).mono ?_;rintro e w' ⟨rfl,rfl⟩)
       go_round
       case rel=>exact ⟨k + 1,by omega,by go_num⟩
       case measure=>simp [intOf];omega
      ·go_wp2_with fail
       go_ret
       exact ⟨rfl,B1.out⟩
   exact body.out _ rfl
open Go Go.RowKit Ly
set_option maxHeartbeats 400000
structure dM (w : World) (b : Nat) (left : Int) : Prop where
 c0 : w.cell? ⟨b,0,none⟩ = some (.int .i64 left)
 fz : w.frozen? ⟨b,0,none⟩ = false
theorem dM.lt {w : World} {b : Nat} {left : Int} (h : dM w b left) : b < w.heap.size:=World.block_lt_of_cell? w _ h.c0
theorem dM.below {w w' : World} {b : Nat} {left : Int} (h : dM w b left) (k : Below w.heap.size w w') : dM w' b left:=by
 have hl:=h.lt
 exact ⟨(k.cell (p:=⟨b,0,none⟩) hl).trans h.c0,(k.frozen (p:=⟨b,0,none⟩) hl).trans h.fz⟩
theorem dM.set {w : World} {b : Nat} {left : Int} (h : dM w b left) (n : Int) : dM (w.setCell ⟨b,0,none⟩ (.int .i64 n)) b n:=by
 obtain ⟨c0,fz⟩:=h
 exact ⟨by simp [c0,go_sem],by simp [fz,go_sem]⟩
def Counted (w0 : World) (b : Nat) (left : Int) (w : World) (e : Ending) (w' : World) : Prop :=
 e = .returned (.bool true) ∧ Below w0.heap.size w0 w' ∧ dM w' b left ∧ But b w w'
def PfD (p : Pf) : Prop:=∀ (w0 w : World) (b : Nat) (left below : Int) (x : Value),dV w0 → cU w0 p x → Below w0.heap.size w0 w → w0.heap.size ≤ b → dM w b left → p.ok = true →
 (p.steps : Int) ≤ left → left ≤ 300 → 0 ≤ below → below + p.depth ≤ 40 → Calls Tryz.prog 87 #[x,.int .i64 below,.pointer (some ⟨b,0,none⟩)] w (Counted w0 b (left - p.steps) w)
theorem pfsSteps_drop {l : List Pf} {j : Nat} {T : Pf} (h : l[j]? = some T) : aE (l.drop j) = T.steps + aE (l.drop (j + 1)):=by
 obtain ⟨h1,rfl⟩:=List.getElem?_eq_some_iff.1 h
 rw [List.drop_eq_getElem_cons h1,aE]
theorem pfsSteps_drop_le (l : List Pf) (j : Nat) : aE (l.drop j) ≤ aE l:=by
 induction l generalizing j with
 | nil=>simp
 | cons x xs ih =>
  cases j with
  | zero=>simp
  | succ j=>simp only [List.drop_succ_cons,aE];have:=ih j;omega
theorem sZ {l : List Pf} : ∀ t ∈ l,t.depth + 1 ≤ dX l:=by
 induction l with
 | nil=>intro t ht;cases ht
 | cons x xs ih =>
  intro t ht
  simp only [dX]
  rcases List.mem_cons.1 ht with e | e
  ·rw [e];omega
  ·have:=ih t e;omega
theorem qE {l : List Pf} (h : iX l = true) : ∀ t ∈ l,t.ok = true:=(BJ l).1 h
theorem qA {w0 w w2 : World} {b : Nat} {left : Int} (n : Int) {o : Obj} (hw : Below w0.heap.size w0 w) (hb : w0.heap.size ≤ b) (hj : dM w b left)
  (h : Below ((w.setCell ⟨b,0,none⟩ (.int .i64 n)).alloc o).heap.size ((w.setCell ⟨b,0,none⟩ (.int .i64 n)).alloc o) w2) : Below w0.heap.size w0 w2 ∧ dM w2 b n ∧ But b w w2:=by
 have k : But b w w2:=(But.set b w 0 none _).trans (But.of_below (bB h))
 exact ⟨k.below hw hb,(hj.set n).below (bB h),k⟩
set_option maxHeartbeats 1600000 in
theorem pf_step (r : Bs) (f : Fm) (lb : Int) (ps : List Pf) (ms : List (List Int)) (hh : ∀ p ∈ ps,PfD p) : PfD (.mk r f lb ps ms):=by
 intro w0 w b left below x hrows hx hw hb hj hok hn hl hd1 hd2
 have hx0:=hx
 obtain ⟨a,k,c,a',m,d,s,sn,sc,q,qn,qc,rfl,h1,h2,h3,h4⟩:=hx
 simp only [Pf.rule,Pf.form,Pf.label,Pf.sub,Pf.marks] at *
 have hs:=h3.len
 have hsl : sn ≤ 9223372036854775807:=by have:=le63 hs.2.2;omega
 simp only [Pf.ok,Bool.and_eq_true] at hok
 have hn' : (1 : Int) ≤ left:=by simp only [Pf.steps] at hn;omega
 have hbl : b < w.heap.size:=hj.lt
 have b1 : decide (left - 1 < 0) = false:=by simp;omega
 have b2 : decide (40 < below) = false:=by simp;omega
 have W1 : Hid (∀ o : Obj,Below w0.heap.size w0 ((w.setCell ⟨b,0,none⟩ (.int .i64 (left - 1))).alloc o) ∧ dM ((w.setCell ⟨b,0,none⟩ (.int .i64 (left - 1))).alloc o) b (left - 1) ∧ But b w ((w.setCell ⟨b,0,none⟩ (.int .i64 (left - 1))).alloc o)):=fun o =>
  qA (left - 1) hw hb hj (Below.refl _ _)
 have HR:=Hd hrows
 have HX:=Hd hx0
 have H1:=Hd h1
 have H2:=Hd h2
 have H3:=Hd h3
 have L3:=Hd hs.1
 have OK:=Hd hok
 have H:=Hd hh
 have hwo : Hid (Below w0.heap.size w0 w ∧ dM w b left):=⟨hw,hj⟩
 have HN : Hid ((aE ps : Int) ≤ left - 1 ∧ left - (Pf.mk r f lb ps ms).steps = left - 1 - aE ps ∧ below + dX ps ≤ 40):=by
  simp only [Pf.steps,Pf.depth] at *
  refine ⟨?_, ?_, ?_⟩ <;> omega
 have hbb : below ≤ 40:=by omega
 obtain ⟨jc,jf⟩:=hj
 clear hrows hx0 h1 h2 h3 h4 hs hok hh hn hd2 hw
 go_enter Tryz.func87,Tryz.ntmps87
 go_wp2_with fail
 refine (gU f (.agg #[.int .u8 f.op,str f.name,.slice a k c,.slice a' m d]) _ (HR.out.keep (aA (W1.out _).1)) ⟨_,_,_,_,_,_,rfl,H1.out.keep (aA (W1.out _).1),H2.out.keep (aA (W1.out _).1)⟩ OK.out.1.1).mono ?_
 rintro e w1 ⟨rfl,hb1⟩
 obtain ⟨hc1,hf1⟩:=eP hb1
 have B1:=Hd hb1
 have hz1 : w.heap.size < w1.heap.size:=by have:=hb1.size;simp [World.setCell] at this;omega
 have K1 : Hid (Below w0.heap.size w0 w1):=(W1.out _).1.trans (hb1.mono (W1.out _).1.size)
 clear hb1
 go_wp2_with fail
 refine (GH (.mk r f lb ps ms) _ _ (HX.out.keep (aA K1.out)) OK.out.1.2).mono ?_
 rintro e w2 ⟨rfl,hb2⟩
 obtain ⟨hc2,hf2⟩:=eP (aB B1.out hb2)
 have R : Hid (Below w0.heap.size w0 w2 ∧ dM w2 b (left - 1) ∧ But b w w2):=qA (left - 1) hwo.out.1 hb hwo.out.2 (aB B1.out hb2)
 clear hb2 hc1 hf1
 go_wp2_with fail
 clear hc2 hf2 B1 K1 W1 hz1
 go_loopw [36] (fun i wr=>∃ j : Nat,j ≤ sn ∧ i = .int .i64 j ∧ Hid (Below w0.heap.size w0 wr ∧ dM wr b (left - 1 - aE ps + aE (ps.drop j)) ∧ But b w wr)) (fun i _=>sn - (intOf i).toNat)
 case atStart=>exact ⟨0,Nat.zero_le _,rfl,R.out.1,by have:=R.out.2.1;simpa using this,R.out.2.2⟩
 case round =>
  obtain ⟨j,hj,rfl,hs⟩:=hrel
  by_cases hlt : j < sn
  ·obtain ⟨T,hT⟩:=aF (l:=ps) (j:=j) (by rw [← L3.out];exact hlt)
   obtain ⟨bb,off,rfl,hc⟩:=H3.out.get (aJ hT)
   obtain ⟨xa,xn,xc,xb,xm,xd,xs,xsn,xsc,xq,xqn,xqc,hx⟩:=hc j _ hT
   have hK:=aA hs.out.1
   have c0:=hK _ _ hx.c0;have c1:=hK _ _ hx.c1;have c2:=hK _ _ hx.c2;have c3:=hK _ _ hx.c3
   have c4:=hK _ _ hx.c4;have c5:=hK _ _ hx.c5;have c6:=hK _ _ hx.c6;have c7:=hK _ _ hx.c7
   have X : Hid (cU w0 T (.agg #[str T.rule,.int .u8 T.form.op,str T.form.name,.slice xa xn xc,.slice xb xm xd,.int .i64 T.label,.slice xs xsn xsc,.slice xq xqn xqc])):=⟨_,_,_,_,_,_,_,_,_,_,_,_,rfl,hx.args,hx.parts,hx.sub,hx.marks⟩
   have HM:=Hd (List.mem_of_getElem? hT)
   have N1:=Hd (pfsSteps_drop hT)
   have N2:=Hd (pfsSteps_drop_le ps j)
   have D1:=Hd (sZ T HM.out)
   have hal : Hid (∀ o,Below w0.heap.size w0 (wr.alloc o) ∧ dM (wr.alloc o) b (left - 1 - aE ps + aE (ps.drop j)) ∧ But b w (wr.alloc o)):=fun o=>by
    have hb1 : Below wr.heap.size wr (wr.alloc o):=bnew
    exact ⟨hs.out.1.trans (hb1.mono hs.out.1.size),hs.out.2.1.below hb1,hs.out.2.2.trans (But.of_below hb1)⟩
   clear hc hx hT hK
   go_wp2_with fail
   refine (H.out T HM.out w0 _ b _ (below + 1) _ HR.out X.out (hal.out _).1 hb (hal.out _).2.1 (qE OK.out.2 T HM.out) (by have:=N1.out;have:=HN.out;omega) (by have:=N2.out;have:=HN.out;omega) (by omega) (by have:=D1.out;have:=HN.out.2.2;omega)).mono ?_
   rintro e w3 ⟨rfl,r1,r2,r3⟩
   have R3 : Hid (Below w0.heap.size w0 w3 ∧ dM w3 b (left - 1 - aE ps + aE (ps.drop (j + 1))) ∧ But b w w3) :=
    ⟨r1,by have e:=N1.out;rw [e] at r2;rw [show left - 1 - (aE ps : Int) + (aE (ps.drop (j + 1)) : Int) = left - 1 - aE ps + ((T.steps + aE (ps.drop (j + 1)) : Nat) : Int) - T.steps by omega];exact r2,(hal.out _).2.2.trans r3⟩
   clear r1 r2 r3
   go_wp2_with fail
   go_roundw
   case rel=>exact ⟨j + 1,by omega,by go_num,R3⟩
   case measure=>simp [intOf];omega
  ·go_wp2_with fail
   go_ret
   have e : ps.drop j = []:=List.drop_of_length_le (by rw [← L3.out];omega)
   have h2:=hs.out.2.1
   rw [e] at h2
   exact ⟨rfl,hs.out.1,by rw [HN.out.2.1];simpa [aE] using h2,hs.out.2.2⟩
mutual
theorem ID : ∀ t : Pf,PfD t
 | .mk r f l ps ms=>pf_step r f l ps ms (LH ps)
theorem LH : ∀ l : List Pf,∀ t ∈ l,PfD t
 | [],_,h=>by cases h
 | x :: xs,t,h=>by
  rcases List.mem_cons.1 h with e | e
  ·rw [e];exact ID x
  ·exact LH xs t e
end
end Go.Proofs.YtcandidgaegghaaGreatDoor
