/- Contracts of package syntax's tests of bytes and names. -/
import Derived.Test.YtppfalbnhnpbnaaGreatDoorMakeC
import Derived.Deep.RegionWith
import Derived.Deep.QuietTactic
import Derived.BigQuiet
import Derived.Lib.Hide
import Derived.Test.YtppfalbnhnpbnaaGreatDoorProg
set_option linter.unusedSimpArgs false
set_option linter.unusedVariables false
namespace Go.Proofs.YtppfalbnhnpbnaaGreatDoor
open Go Go.RowKit Ly
def iT (c : UInt8) : Bool:=117 ≤ c && c ≤ 122
def iO (c : UInt8) : Bool:=97 ≤ c && c ≤ 116
def oY (f : FuncId) (p : UInt8 → Bool) : Prop:=∀ (c : UInt8) (w : World),Calls Tryz.prog f #[.int .u8 c.toNat] w fun e w'=>e = .returned (.bool (p c)) ∧ w = w'
theorem cX {a b : Bool} (h : a = b) : Ending.returned (.bool a) = .returned (.bool b):=by rw [h]
set_option maxHeartbeats 400000
theorem small_c : oY 201 small:=by
 intro c w
 go_enter Tryz.func201,Tryz.ntmps201
 go_wp2
 all_goals go_ret
 all_goals exact ⟨cX (by rw [Bool.eq_iff_iff];simp [small,UInt8.le_iff_toNat_le];omega),rfl⟩
theorem sQ : oY 155 dZ:=by
 intro c w
 go_enter Tryz.func155,Tryz.ntmps155
 go_wp2
 all_goals go_ret
 all_goals exact ⟨cX (by rw [Bool.eq_iff_iff];simp [dZ,UInt8.le_iff_toNat_le];omega),rfl⟩
theorem xG : oY 159 digit:=by
 intro c w
 go_enter Tryz.func159,Tryz.ntmps159
 go_wp2
 all_goals go_ret
 all_goals exact ⟨cX (by rw [Bool.eq_iff_iff];simp [digit,UInt8.le_iff_toNat_le];omega),rfl⟩
theorem varFirst_c : oY 158 iT:=by
 intro c w
 go_enter Tryz.func158,Tryz.ntmps158
 go_wp2
 all_goals go_ret
 all_goals exact ⟨cX (by rw [Bool.eq_iff_iff];simp [iT,UInt8.le_iff_toNat_le];omega),rfl⟩
theorem funFirst_c : oY 157 iO:=by
 intro c w
 go_enter Tryz.func157,Tryz.ntmps157
 go_wp2
 all_goals go_ret
 all_goals exact ⟨cX (by rw [Bool.eq_iff_iff];simp [iO,UInt8.le_iff_toNat_le];omega),rfl⟩
theorem wZ : oY 156 cS:=by
 intro c w
 have e : Hid (cS c = (small c || dZ c || digit c)):=rfl
 generalize h1 : small c = b1 at e
 generalize h2 : dZ c = b2 at e
 generalize h3 : digit c = b3 at e
 have H1:=Lib.hid h1;have H2:=Lib.hid h2;have H3:=Lib.hid h3
 clear h1 h2 h3
 cases b1 <;> cases b2 <;> cases b3
 all_goals
  go_enter Tryz.func156,Tryz.ntmps156
  go_wp2_with (first
   | (go_at_call 201;refine (small_c c _).mono ?_;rintro e w1 ⟨he,hw⟩;rw [H1.out] at he;subst he hw)
   | (go_at_call 155;refine (sQ c _).mono ?_;rintro e w1 ⟨he,hw⟩;rw [H2.out] at he;subst he hw)
   | (go_at_call 159;refine (xG c _).mono ?_;rintro e w1 ⟨he,hw⟩;rw [H3.out] at he;subst he hw))
  go_ret
  exact ⟨cX (by rw [e.out];rfl),rfl⟩
theorem mW (s : Bs) (w : World) : Calls Tryz.prog 200 #[str s] w fun e w'=>e = .returned (.bool (eM s)) ∧ w = w':=by
 go_enter Tryz.func200,Tryz.ntmps200
 go_wp2
 all_goals first
  | (exfalso;simp_all;done)
  | (go_ret;exact ⟨cX (by simp [eM,wAll,mI,jM,mH,gU,oX, *]),rfl⟩)
theorem oY.quiet {f : FuncId} {p : UInt8 → Bool} (h : oY f p) (c : UInt8) (w : World) (n : Nat) :
  Calls Tryz.prog f #[.int .u8 c.toNat] (w.drewN n) fun e w''=>e = .returned (.bool (p c)) ∧ ∃ m,w'' = w.drewN m :=
 (h c _).mono fun _ _ ⟨he,hw⟩=>⟨he,n,hw.symm⟩
theorem qJ (q : UInt8 → Bool) {r : Bs} {k : Nat} (h : k < r.length) : (r.drop k).all q = (q (r[k]) && (r.drop (k+1)).all q):=by
 rw [List.drop_eq_getElem_cons h,List.all_cons]
set_option maxHeartbeats 1600000 in
theorem checkVar_c (s : Bs) (b b' : Nat) (w : World) (hs : s.length ≤ 9223372036854775807)
  (c1 : w.cell? ⟨b,0,none⟩ = some (.func (.func 158) #[] #[])) (c2 : w.cell? ⟨b',0,none⟩ = some (.func (.func 159) #[] #[])) :
  Calls Tryz.prog 199 #[str s,.pointer (some ⟨b,0,none⟩),.pointer (some ⟨b',0,none⟩)] w fun e w'=>e = .returned (.bool (cG iT digit s)) ∧ ∃ n,w' = w.drewN n:=by
 cases s with
 | nil =>
  go_enter Tryz.func199,Tryz.ntmps199
  go_wp2_with fail
  go_quiet (fail)
  go_wp2_with fail
  go_ret
  exact ⟨rfl,_,rfl⟩
 | cons c r =>
  have hr : r.length + 1 ≤ 9223372036854775807:=by simpa using hs
  have d1 : decide ((r.length : Int) + 1 < 1) = false:=by simp;omega
  clear hs
  by_cases hl : 16 < r.length + 1
  ·have d2 : decide (16 < (r.length : Int) + 1) = true:=by simp;omega
   go_enter Tryz.func199,Tryz.ntmps199
   go_wp2_with fail
   go_quiet (fail)
   go_wp2_with fail
   go_ret
   exact ⟨cX (by simp [cG];omega),_,rfl⟩
  ·have d2 : decide (16 < (r.length : Int) + 1) = false:=by simp;omega
   have e : Hid (cG iT digit (c :: r) = (!eM (c :: r) && iT c && r.all digit)):=by
    show cG iT digit (c :: r) = _
    rw [cG,decide_eq_true (by omega),Bool.true_and]
   generalize h3 : eM (c :: r) = b3 at e
   have R3 : Hid (∀ n,Calls Tryz.prog 200 #[str (c :: r)] (w.drewN n) fun e w''=>e = .returned (.bool b3) ∧ ∃ m,w'' = w.drewN m) :=
    fun n=>(mW _ _).mono fun _ _ ⟨he,hw⟩=>⟨he.trans (by rw [h3]),n,hw.symm⟩
   generalize h4 : iT c = b4 at e
   have R4 : Hid (∀ n,Calls Tryz.prog 158 #[.int .u8 c.toNat] (w.drewN n) fun e w''=>e = .returned (.bool b4) ∧ ∃ m,w'' = w.drewN m) :=
    fun n=>(varFirst_c.quiet c w n).mono fun _ _ ⟨he,hw⟩=>⟨he.trans (by rw [h4]),hw⟩
   clear h3 h4
   cases b3 <;> cases b4
   all_goals
    go_enter Tryz.func199,Tryz.ntmps199
    go_wp2_with fail
    go_quiet (first | (go_at_call 200;exact R3.out _) | (go_at_call 158;exact R4.out _))
    go_wp2_with fail
    try (go_ret;exact ⟨cX (by rw [e.out];rfl),_,rfl⟩)
   clear R3 R4
   go_loopw [5] (fun i wr=>∃ k : Nat,k ≤ r.length ∧ i = .int .i64 (k + 1 : Nat) ∧ (∃ n,wr = w.drewN n) ∧ Hid (r.all digit = (r.drop k).all digit)) (fun i _=>r.length + 1 - (intOf i).toNat)
   case atStart=>exact ⟨0,Nat.zero_le _,rfl,⟨_,rfl⟩,rfl⟩
   case round =>
    obtain ⟨k,hk,rfl,⟨n,rfl⟩,hs⟩:=hrel
    by_cases hlt : k < r.length
    ·have S:=Lib.hid (qJ digit hlt)
     generalize h5 : digit (r[k]'hlt) = b5 at S
     have R5 : Hid (∀ m,Calls Tryz.prog 159 #[.int .u8 (r[k]'hlt).toNat] (w.drewN (n + m)) fun e w''=>e = .returned (.bool b5) ∧ ∃ j,w'' = w.drewN (n + j)) :=
      fun m=>(xG (r[k]'hlt) (w.drewN (n + m))).mono fun _ _ ⟨he,hw⟩=>⟨he.trans (by rw [h5]),m,hw.symm⟩
     clear h5
     have t1 : ((k : Int) + 1).toNat = k + 1:=by omega
     have t2 : (0 : Int) ≤ (k : Int) + 1:=by omega
     have t3 : k + 1 < r.length + 1:=by omega
     cases b5
     ·go_wp2_with fail
      go_quiet (first | (go_at_call 159;exact R5.out _))
      go_wp2_with fail
      go_ret
      exact ⟨cX (by rw [e.out,hs.out,S.out];rfl),_,World.drewN_drewN _ _ _⟩
     ·go_wp2_with fail
      go_quiet (first | (go_at_call 159;exact R5.out _))
      go_wp2_with fail
      go_roundw
      case rel=>exact ⟨k + 1,by omega,by go_num,⟨_,rfl⟩,by have q:=hs.out.trans S.out;simp only [Bool.true_and] at q;exact q⟩
      case measure=>simp [intOf];omega
    ·go_wp2_with fail
     go_ret
     exact ⟨cX (by rw [e.out,hs.out,List.drop_of_length_le (by omega)];rfl),_,rfl⟩
set_option maxHeartbeats 1600000 in
theorem checkFun_c (s : Bs) (b b' : Nat) (w : World) (hs : s.length ≤ 9223372036854775807)
  (c1 : w.cell? ⟨b,0,none⟩ = some (.func (.func 157) #[] #[])) (c2 : w.cell? ⟨b',0,none⟩ = some (.func (.func 156) #[] #[])) :
  Calls Tryz.prog 199 #[str s,.pointer (some ⟨b,0,none⟩),.pointer (some ⟨b',0,none⟩)] w fun e w'=>e = .returned (.bool (cG iO cS s)) ∧ ∃ n,w' = w.drewN n:=by
 cases s with
 | nil =>
  go_enter Tryz.func199,Tryz.ntmps199
  go_wp2_with fail
  go_quiet (fail)
  go_wp2_with fail
  go_ret
  exact ⟨rfl,_,rfl⟩
 | cons c r =>
  have hr : r.length + 1 ≤ 9223372036854775807:=by simpa using hs
  have d1 : decide ((r.length : Int) + 1 < 1) = false:=by simp;omega
  clear hs
  by_cases hl : 16 < r.length + 1
  ·have d2 : decide (16 < (r.length : Int) + 1) = true:=by simp;omega
   go_enter Tryz.func199,Tryz.ntmps199
   go_wp2_with fail
   go_quiet (fail)
   go_wp2_with fail
   go_ret
   exact ⟨cX (by simp [cG];omega),_,rfl⟩
  ·have d2 : decide (16 < (r.length : Int) + 1) = false:=by simp;omega
   have e : Hid (cG iO cS (c :: r) = (!eM (c :: r) && iO c && r.all cS)):=by
    show cG iO cS (c :: r) = _
    rw [cG,decide_eq_true (by omega),Bool.true_and]
   generalize h3 : eM (c :: r) = b3 at e
   have R3 : Hid (∀ n,Calls Tryz.prog 200 #[str (c :: r)] (w.drewN n) fun e w''=>e = .returned (.bool b3) ∧ ∃ m,w'' = w.drewN m) :=
    fun n=>(mW _ _).mono fun _ _ ⟨he,hw⟩=>⟨he.trans (by rw [h3]),n,hw.symm⟩
   generalize h4 : iO c = b4 at e
   have R4 : Hid (∀ n,Calls Tryz.prog 157 #[.int .u8 c.toNat] (w.drewN n) fun e w''=>e = .returned (.bool b4) ∧ ∃ m,w'' = w.drewN m) :=
    fun n=>(funFirst_c.quiet c w n).mono fun _ _ ⟨he,hw⟩=>⟨he.trans (by rw [h4]),hw⟩
   clear h3 h4
   cases b3 <;> cases b4
   all_goals
    go_enter Tryz.func199,Tryz.ntmps199
    go_wp2_with fail
    go_quiet (first | (go_at_call 200;exact R3.out _) | (go_at_call 157;exact R4.out _))
    go_wp2_with fail
    try (go_ret;exact ⟨cX (by rw [e.out];rfl),_,rfl⟩)
   clear R3 R4
   go_loopw [5] (fun i wr=>∃ k : Nat,k ≤ r.length ∧ i = .int .i64 (k + 1 : Nat) ∧ (∃ n,wr = w.drewN n) ∧ Hid (r.all cS = (r.drop k).all cS)) (fun i _=>r.length + 1 - (intOf i).toNat)
   case atStart=>exact ⟨0,Nat.zero_le _,rfl,⟨_,rfl⟩,rfl⟩
   case round =>
    obtain ⟨k,hk,rfl,⟨n,rfl⟩,hs⟩:=hrel
    by_cases hlt : k < r.length
    ·have S:=Lib.hid (qJ cS hlt)
     generalize h5 : cS (r[k]'hlt) = b5 at S
     have R5 : Hid (∀ m,Calls Tryz.prog 156 #[.int .u8 (r[k]'hlt).toNat] (w.drewN (n + m)) fun e w''=>e = .returned (.bool b5) ∧ ∃ j,w'' = w.drewN (n + j)) :=
      fun m=>(wZ (r[k]'hlt) (w.drewN (n + m))).mono fun _ _ ⟨he,hw⟩=>⟨he.trans (by rw [h5]),m,hw.symm⟩
     clear h5
     have t1 : ((k : Int) + 1).toNat = k + 1:=by omega
     have t2 : (0 : Int) ≤ (k : Int) + 1:=by omega
     have t3 : k + 1 < r.length + 1:=by omega
     cases b5
     ·go_wp2_with fail
      go_quiet (first | (go_at_call 156;exact R5.out _))
      go_wp2_with fail
      go_ret
      exact ⟨cX (by rw [e.out,hs.out,S.out];rfl),_,World.drewN_drewN _ _ _⟩
     ·go_wp2_with fail
      go_quiet (first | (go_at_call 156;exact R5.out _))
      go_wp2_with fail
      go_roundw
      case rel=>exact ⟨k + 1,by omega,by go_num,⟨_,rfl⟩,by have q:=hs.out.trans S.out;simp only [Bool.true_and] at q;exact q⟩
      case measure=>simp [intOf];omega
    ·go_wp2_with fail
     go_ret
     exact ⟨cX (by rw [e.out,hs.out,List.drop_of_length_le (by omega)];rfl),_,rfl⟩
set_option maxHeartbeats 1600000 in
theorem checkPred_c (s : Bs) (b b' : Nat) (w : World) (hs : s.length ≤ 9223372036854775807)
  (c1 : w.cell? ⟨b,0,none⟩ = some (.func (.func 155) #[] #[])) (c2 : w.cell? ⟨b',0,none⟩ = some (.func (.func 156) #[] #[])) :
  Calls Tryz.prog 199 #[str s,.pointer (some ⟨b,0,none⟩),.pointer (some ⟨b',0,none⟩)] w fun e w'=>e = .returned (.bool (cG dZ cS s)) ∧ ∃ n,w' = w.drewN n:=by
 cases s with
 | nil =>
  go_enter Tryz.func199,Tryz.ntmps199
  go_wp2_with fail
  go_quiet (fail)
  go_wp2_with fail
  go_ret
  exact ⟨rfl,_,rfl⟩
 | cons c r =>
  have hr : r.length + 1 ≤ 9223372036854775807:=by simpa using hs
  have d1 : decide ((r.length : Int) + 1 < 1) = false:=by simp;omega
  clear hs
  by_cases hl : 16 < r.length + 1
  ·have d2 : decide (16 < (r.length : Int) + 1) = true:=by simp;omega
   go_enter Tryz.func199,Tryz.ntmps199
   go_wp2_with fail
   go_quiet (fail)
   go_wp2_with fail
   go_ret
   exact ⟨cX (by simp [cG];omega),_,rfl⟩
  ·have d2 : decide (16 < (r.length : Int) + 1) = false:=by simp;omega
   have e : Hid (cG dZ cS (c :: r) = (!eM (c :: r) && dZ c && r.all cS)):=by
    show cG dZ cS (c :: r) = _
    rw [cG,decide_eq_true (by omega),Bool.true_and]
   generalize h3 : eM (c :: r) = b3 at e
   have R3 : Hid (∀ n,Calls Tryz.prog 200 #[str (c :: r)] (w.drewN n) fun e w''=>e = .returned (.bool b3) ∧ ∃ m,w'' = w.drewN m) :=
    fun n=>(mW _ _).mono fun _ _ ⟨he,hw⟩=>⟨he.trans (by rw [h3]),n,hw.symm⟩
   generalize h4 : dZ c = b4 at e
   have R4 : Hid (∀ n,Calls Tryz.prog 155 #[.int .u8 c.toNat] (w.drewN n) fun e w''=>e = .returned (.bool b4) ∧ ∃ m,w'' = w.drewN m) :=
    fun n=>(sQ.quiet c w n).mono fun _ _ ⟨he,hw⟩=>⟨he.trans (by rw [h4]),hw⟩
   clear h3 h4
   cases b3 <;> cases b4
   all_goals
    go_enter Tryz.func199,Tryz.ntmps199
    go_wp2_with fail
    go_quiet (first | (go_at_call 200;exact R3.out _) | (go_at_call 155;exact R4.out _))
    go_wp2_with fail
    try (go_ret;exact ⟨cX (by rw [e.out];rfl),_,rfl⟩)
   clear R3 R4
   go_loopw [5] (fun i wr=>∃ k : Nat,k ≤ r.length ∧ i = .int .i64 (k + 1 : Nat) ∧ (∃ n,wr = w.drewN n) ∧ Hid (r.all cS = (r.drop k).all cS)) (fun i _=>r.length + 1 - (intOf i).toNat)
   case atStart=>exact ⟨0,Nat.zero_le _,rfl,⟨_,rfl⟩,rfl⟩
   case round =>
    obtain ⟨k,hk,rfl,⟨n,rfl⟩,hs⟩:=hrel
    by_cases hlt : k < r.length
    ·have S:=Lib.hid (qJ cS hlt)
     generalize h5 : cS (r[k]'hlt) = b5 at S
     have R5 : Hid (∀ m,Calls Tryz.prog 156 #[.int .u8 (r[k]'hlt).toNat] (w.drewN (n + m)) fun e w''=>e = .returned (.bool b5) ∧ ∃ j,w'' = w.drewN (n + j)) :=
      fun m=>(wZ (r[k]'hlt) (w.drewN (n + m))).mono fun _ _ ⟨he,hw⟩=>⟨he.trans (by rw [h5]),m,hw.symm⟩
     clear h5
     have t1 : ((k : Int) + 1).toNat = k + 1:=by omega
     have t2 : (0 : Int) ≤ (k : Int) + 1:=by omega
     have t3 : k + 1 < r.length + 1:=by omega
     cases b5
     ·go_wp2_with fail
      go_quiet (first | (go_at_call 156;exact R5.out _))
      go_wp2_with fail
      go_ret
      exact ⟨cX (by rw [e.out,hs.out,S.out];rfl),_,World.drewN_drewN _ _ _⟩
     ·go_wp2_with fail
      go_quiet (first | (go_at_call 156;exact R5.out _))
      go_wp2_with fail
      go_roundw
      case rel=>exact ⟨k + 1,by omega,by go_num,⟨_,rfl⟩,by have q:=hs.out.trans S.out;simp only [Bool.true_and] at q;exact q⟩
      case measure=>simp [intOf];omega
    ·go_wp2_with fail
     go_ret
     exact ⟨cX (by rw [e.out,hs.out,List.drop_of_length_le (by omega)];rfl),_,rfl⟩
set_option maxHeartbeats 400000 in
theorem kB (s : Bs) (w : World) (hs : s.length ≤ 9223372036854775807) : Calls Tryz.prog 105 #[str s] w fun e w'=>e = .returned (.bool (bU s)) ∧ Below w.heap.size w w':=by
 have HS:=Lib.hid hs;clear hs
 go_enter Tryz.func105,Tryz.ntmps105
 go_wp2_with (first | (go_at_call 154;go_in) | (go_at_call 199;refine (checkVar_c s _ _ _ HS.out (by simp [go_sem]) (by simp [go_sem])).mono ?_;rintro e w1 ⟨rfl,n,rfl⟩))
 go_ret
 exact ⟨rfl,by
  have h : Below w.heap.size w ((w.alloc (.cells #[.func (.func 158) #[] #[]] 184)).alloc (.cells #[.func (.func 159) #[] #[]] 184)):=((Below.refl _ _).alloc (Nat.le_refl _) _).alloc (by simp) _
  exact ⟨h.os,h.tape,h.output,h.size,h.block⟩⟩
set_option maxHeartbeats 400000 in
theorem mJ (s : Bs) (w : World) (hs : s.length ≤ 9223372036854775807) : Calls Tryz.prog 104 #[str s] w fun e w'=>e = .returned (.bool (eS s)) ∧ Below w.heap.size w w':=by
 have HS:=Lib.hid hs;clear hs
 go_enter Tryz.func104,Tryz.ntmps104
 go_wp2_with (first | (go_at_call 154;go_in) | (go_at_call 199;refine (checkFun_c s _ _ _ HS.out (by simp [go_sem]) (by simp [go_sem])).mono ?_;rintro e w1 ⟨rfl,n,rfl⟩))
 go_ret
 exact ⟨rfl,by
  have h : Below w.heap.size w ((w.alloc (.cells #[.func (.func 157) #[] #[]] 184)).alloc (.cells #[.func (.func 156) #[] #[]] 184)):=((Below.refl _ _).alloc (Nat.le_refl _) _).alloc (by simp) _
  exact ⟨h.os,h.tape,h.output,h.size,h.block⟩⟩
set_option maxHeartbeats 400000 in
theorem oZ (s : Bs) (w : World) (hs : s.length ≤ 9223372036854775807) : Calls Tryz.prog 103 #[str s] w fun e w'=>e = .returned (.bool (cW s)) ∧ Below w.heap.size w w':=by
 have HS:=Lib.hid hs;clear hs
 go_enter Tryz.func103,Tryz.ntmps103
 go_wp2_with (first | (go_at_call 154;go_in) | (go_at_call 199;refine (checkPred_c s _ _ _ HS.out (by simp [go_sem]) (by simp [go_sem])).mono ?_;rintro e w1 ⟨rfl,n,rfl⟩))
 go_ret
 exact ⟨rfl,by
  have h : Below w.heap.size w ((w.alloc (.cells #[.func (.func 155) #[] #[]] 184)).alloc (.cells #[.func (.func 156) #[] #[]] 184)):=((Below.refl _ _).alloc (Nat.le_refl _) _).alloc (by simp) _
  exact ⟨h.os,h.tape,h.output,h.size,h.block⟩⟩
end Go.Proofs.YtppfalbnhnpbnaaGreatDoor
namespace Go.Proofs.YtppfalbnhnpbnaaGreatDoor
open Go Go.RowKit Ly
structure But (b : Nat) (w w' : World) : Prop where
 os : w'.os = w.os
 tape : w'.tape = w.tape
 output : w'.output = w.output
 size : w.heap.size ≤ w'.heap.size
 block : ∀ k,k < w.heap.size → k ≠ b → w'.heap[k]? = w.heap[k]?
theorem But.refl (b : Nat) (w : World) : But b w w:=⟨rfl,rfl,rfl,Nat.le_refl _,fun _ _ _=>rfl⟩
theorem But.trans {b : Nat} {u v w : World} (h : But b u v) (k : But b v w) : But b u w :=
 ⟨k.os.trans h.os,k.tape.trans h.tape,k.output.trans h.output,Nat.le_trans h.size k.size,fun i hi hb=>(k.block i (Nat.lt_of_lt_of_le hi h.size) hb).trans (h.block i hi hb)⟩
theorem But.of_below {b : Nat} {w w' : World} (h : Below w.heap.size w w') : But b w w':=⟨h.os,h.tape,h.output,h.size,fun k hk _=>h.block k hk⟩
theorem But.set (b : Nat) (w : World) (o : Nat) (s : Option Nat) (v : Value) : But b w (w.setCell ⟨b,o,s⟩ v) :=
 ⟨rfl,rfl,rfl,by simp [World.setCell],fun k _ hb=>Below.heap_setCell _ _ _ _ hb⟩
theorem But.below {b : Nat} {w w' : World} (h : But b w w') {w0 : World} (hw : Below w0.heap.size w0 w) (hb : w0.heap.size ≤ b) : Below w0.heap.size w0 w' :=
 hw.trans ⟨h.os,h.tape,h.output,h.size,fun k hk=>h.block k (Nat.lt_of_lt_of_le hk hw.size) (by omega)⟩
theorem But.cell {b : Nat} {w w' : World} (h : But b w w') {k o : Nat} (hk : k < w.heap.size) (hb : k ≠ b) : w'.cell? ⟨k,o,none⟩ = w.cell? ⟨k,o,none⟩:=World.cell?_of_block (w:=w) (h.block k hk hb)
structure dD (w : World) (b : Nat) (left : Int) : Prop where
 c0 : w.cell? ⟨b,0,none⟩ = some (.bool false)
 c1 : w.cell? ⟨b,1,none⟩ = some (.int .i64 left)
 c2 : w.cell? ⟨b,2,none⟩ = some (.int .i64 40)
 fz : w.frozen? ⟨b,1,none⟩ = false
theorem dD.lt {w : World} {b : Nat} {left : Int} (h : dD w b left) : b < w.heap.size:=World.block_lt_of_cell? w _ h.c0
theorem dD.below {w w' : World} {b : Nat} {left : Int} (h : dD w b left) (k : Below w.heap.size w w') : dD w' b left:=by
 have hl:=h.lt
 exact ⟨(k.cell (p:=⟨b,0,none⟩) hl).trans h.c0,(k.cell (p:=⟨b,1,none⟩) hl).trans h.c1,(k.cell (p:=⟨b,2,none⟩) hl).trans h.c2,(k.frozen (p:=⟨b,1,none⟩) hl).trans h.fz⟩
set_option maxHeartbeats 400000
theorem rI (b : Nat) (left depth : Int) (w : World) (h : dD w b left) (h1 : 1 ≤ left) (h2 : left ≤ 400) (h3 : depth ≤ 40) :
  Calls Tryz.prog 76 #[.pointer (some ⟨b,0,none⟩),.int .i64 depth] w fun e w'=>e = .returned (.bool true) ∧ w' = w.setCell ⟨b,1,none⟩ (.int .i64 (left - 1)):=by
 obtain ⟨c0,c1,c2,fz⟩:=h
 have d1 : (0 : Int) ≤ left - 1:=by omega
 go_enter Tryz.func76,Tryz.ntmps76
 go_wp2
 go_ret
 exact ⟨rfl,rfl⟩
theorem dD.set {w : World} {b : Nat} {left : Int} (h : dD w b left) (n : Int) : dD (w.setCell ⟨b,1,none⟩ (.int .i64 n)) b n:=by
 obtain ⟨c0,c1,c2,fz⟩:=h
 exact ⟨by simp [c0,go_sem],by simp [c1,go_sem],by simp [c2,go_sem],by simp [fz,go_sem]⟩
def wR (w0 : World) (b : Nat) (left : Int) (w : World) (e : Ending) (w' : World) : Prop :=
 e = .returned (.bool true) ∧ Below w0.heap.size w0 w' ∧ dD w' b left ∧ But b w w'
def TmJ (t : Tm) : Prop:=∀ (w0 w : World) (b : Nat) (left depth : Int) (x : Value),dC w0 t x → Below w0.heap.size w0 w → w0.heap.size ≤ b → dD w b left → t.ok = true →
 (t.nodes : Int) ≤ left → left ≤ 400 → 1 ≤ depth → depth + t.depth ≤ 41 → Calls Tryz.prog 132 #[.pointer (some ⟨b,0,none⟩),x,.int .i64 depth] w (wR w0 b (left - t.nodes) w)
def TmsJ (l : List Tm) : Prop:=∀ (w0 w : World) (b : Nat) (left depth : Int) (a : Option Addr) (k c : Nat),bG w0 l (.slice a k c) → Below w0.heap.size w0 w → w0.heap.size ≤ b → dD w b left → cE l = true →
 (aF l : Int) ≤ left → left ≤ 400 → 1 ≤ depth → depth + cC l ≤ 41 → Calls Tryz.prog 79 #[.pointer (some ⟨b,0,none⟩),.slice a k c,.int .i64 depth] w (wR w0 b (left - aF l) w)
theorem jT {first other : UInt8 → Bool} {s : Bs} (h : cG first other s = true) : s.length ≤ 16:=by
 cases s with
 | nil=>simp
 | cons c r=>simp [cG] at h;simp;exact h.1.1.1
theorem oI {w0 w w2 : World} {b : Nat} {left : Int} (n : Int) {o : Obj} (hw : Below w0.heap.size w0 w) (hb : w0.heap.size ≤ b) (hj : dD w b left)
  (h : Below ((w.setCell ⟨b,1,none⟩ (.int .i64 n)).alloc o).heap.size ((w.setCell ⟨b,1,none⟩ (.int .i64 n)).alloc o) w2) : Below w0.heap.size w0 w2 ∧ dD w2 b n ∧ But b w w2:=by
 have k : But b w w2:=(But.set b w 1 none _).trans (But.of_below (bV h))
 exact ⟨k.below hw hb,(hj.set n).below (bV h),k⟩
theorem term_step (v : Bool) (n : Bs) (ts : List Tm) (ih : TmsJ ts) : TmJ (.mk v n ts):=by
 intro w0 w b left depth x hx hw hb hj hok hn hl hd1 hd2
 obtain ⟨a,k,c,rfl,hx⟩:=hx
 simp only [Tm.v,Tm.name,Tm.args] at *
 have hk:=hx.len
 have hn' : (1 : Int) ≤ left:=by simp only [Tm.nodes] at hn;omega
 have hd : depth ≤ 40:=by simp only [Tm.depth] at hd2;omega
 have hbl : b < w.heap.size:=hj.lt
 cases v with
 | true =>
  have hts : ts = []:=by simp only [Tm.ok] at hok;simp_all
  have hv : bU n = true:=by simp only [Tm.ok] at hok;simp_all
  subst hts
  have hk0 : k = 0:=by simpa using hk.1
  subst hk0
  have HV:=Lib.hid hv
  have HJ:=Lib.hid hj
  have HW:=Lib.hid hw
  have hlen : Hid (n.length ≤ 9223372036854775807):=by
   have:=jT hv
   show n.length ≤ _;omega
  clear hx hk hv hok hn hj hw hd2
  go_enter Tryz.func132,Tryz.ntmps132
  go_wp2_with (first
   | (go_at_call 76;refine (rI b left depth _ (HJ.out.below (by exact (Below.refl _ _).alloc (Nat.le_refl _) _)) hn' hl hd).mono ?_;rintro e w1 ⟨rfl,rfl⟩)
   | (go_at_call 105;refine (kB n _ hlen.out).mono ?_;rintro e w2 ⟨he,hb2⟩;rw [show bU n = true from HV.out] at he;subst he))
  go_ret
  obtain ⟨q1,q2,q3⟩:=oI (left - 1) HW.out hb HJ.out hb2
  exact ⟨rfl,q1,q2,q3⟩
 | false =>
  have hf : eS n = true:=by simp only [Tm.ok] at hok;simp_all
  have h4 : ts.length ≤ 4:=by simp only [Tm.ok] at hok;simp_all
  have ho : cE ts = true:=by simp only [Tm.ok] at hok;simp_all
  have hkl : k ≤ 4:=by rw [hk.1];exact h4
  have HV:=Lib.hid hf
  have HJ:=Lib.hid hj
  have HW:=Lib.hid hw
  have HX:=Lib.hid hx
  have HN : Hid ((aF ts : Int) ≤ left - 1 ∧ depth + 1 + cC ts ≤ 41 ∧ cE ts = true ∧ left - (Tm.mk false n ts).nodes = left - 1 - aF ts):=by
   simp only [Tm.nodes,Tm.depth] at *
   refine ⟨?_, ?_,ho, ?_⟩ <;> omega
  have HI:=Lib.hid ih
  have hlen : Hid (n.length ≤ 9223372036854775807):=by
   have:=jT hf
   show n.length ≤ _;omega
  clear hx hk hf hok hn hj hw hd2 h4 ho ih
  go_enter Tryz.func132,Tryz.ntmps132
  go_wp2_with (first
   | (go_at_call 76;refine (rI b left depth _ (HJ.out.below (by exact (Below.refl _ _).alloc (Nat.le_refl _) _)) hn' hl hd).mono ?_;rintro e w1 ⟨rfl,rfl⟩)
   | (go_at_call 104;refine (mJ n _ hlen.out).mono ?_;rintro e w2 ⟨he,hb2⟩;rw [show eS n = true from HV.out] at he;subst he;obtain ⟨hc2,hf2⟩:=nG hb2;have q:=Lib.hid (oI (left - 1) HW.out hb HJ.out hb2))
   | (go_at_call 79;refine (HI.out w0 _ b (left - 1) (depth + 1) a k c HX.out q.out.1 hb q.out.2.1 HN.out.2.2.1 HN.out.1 (by omega) (by omega) HN.out.2.1).mono ?_;rintro e w3 ⟨rfl,r1,r2,r3⟩))
  go_ret
  exact ⟨rfl,r1,by rw [HN.out.2.2.2];exact r2,q.out.2.2.trans r3⟩
theorem uB {l : List Tm} (h : cE l = true) : ∀ t ∈ l,t.ok = true:=by
 induction l with
 | nil=>intro t ht;cases ht
 | cons x xs ih =>
  simp only [cE,Bool.and_eq_true] at h
  intro t ht
  rcases List.mem_cons.1 ht with e | e
  ·rw [e];exact h.1
  ·exact ih h.2 t e
theorem tmsDepth_mem {l : List Tm} : ∀ t ∈ l,t.depth ≤ cC l:=by
 induction l with
 | nil=>intro t ht;cases ht
 | cons x xs ih =>
  intro t ht
  simp only [cC]
  rcases List.mem_cons.1 ht with e | e
  ·rw [e];omega
  ·have:=ih t e;omega
theorem tmsNodes_drop {l : List Tm} {j : Nat} {T : Tm} (h : l[j]? = some T) : aF (l.drop j) = T.nodes + aF (l.drop (j + 1)):=by
 obtain ⟨h1,rfl⟩:=List.getElem?_eq_some_iff.1 h
 rw [List.drop_eq_getElem_cons h1,aF]
theorem tmsNodes_drop_le (l : List Tm) (j : Nat) : aF (l.drop j) ≤ aF l:=by
 induction l generalizing j with
 | nil=>simp
 | cons x xs ih =>
  cases j with
  | zero=>simp
  | succ j=>simp only [List.drop_succ_cons,aF];have:=ih j;omega
theorem rV (l : List Tm) (hh : ∀ t ∈ l,TmJ t) : TmsJ l:=by
 intro w0 w b left depth a k c hx hw hb hj hok hn hl hd1 hd2
 have hk:=hx.len
 have hlen : k ≤ 9223372036854775807:=by have:=le63 hk.2.2;omega
 have L1:=Lib.hid hk.1
 have H:=Lib.hid hh
 have HX:=Lib.hid hx
 have HW:=Lib.hid hw
 have HJ:=Lib.hid hj
 have HO:=Lib.hid hok
 have HN:=Lib.hid hn
 have HD:=Lib.hid hd2
 clear hk hh hx hw hj hok hn hd2
 go_enter Tryz.func79,Tryz.ntmps79
 go_wp2_with fail
 go_loopw [11] (fun i wr=>∃ j : Nat,j ≤ k ∧ i = .int .i64 j ∧ Hid (Below w0.heap.size w0 wr ∧ dD wr b (left - aF l + aF (l.drop j)) ∧ But b w wr)) (fun i _=>k - (intOf i).toNat)
 case atStart=>exact ⟨0,Nat.zero_le _,rfl,HW.out,by have:=HJ.out;simpa using this,But.refl _ _⟩
 case round =>
  obtain ⟨j,hj,rfl,hs⟩:=hrel
  by_cases hlt : j < k
  ·obtain ⟨T,hT⟩:=aT (l:=l) (j:=j) (by rw [← L1.out];exact hlt)
   obtain ⟨bb,off,rfl,hc⟩:=HX.out.get (aX hT)
   obtain ⟨x0,x1,x2,hx⟩:=hc j _ hT
   have hK:=aA hs.out.1
   have c0:=hK _ _ hx.c0;have c1:=hK _ _ hx.c1;have c2:=hK _ _ hx.c2
   have X : Hid (dC w0 T (.agg #[.bool T.v,str T.name,.slice x0 x1 x2])):=⟨_,_,_,rfl,hx.at_⟩
   have HM:=Lib.hid (List.mem_of_getElem? hT)
   have N1:=Lib.hid (tmsNodes_drop hT)
   have N2:=Lib.hid (tmsNodes_drop_le l j)
   have D1:=Lib.hid (tmsDepth_mem T HM.out)
   have hal : Hid (∀ o,Below w0.heap.size w0 (wr.alloc o) ∧ dD (wr.alloc o) b (left - aF l + aF (l.drop j)) ∧ But b w (wr.alloc o)):=fun o=>by
    have hb1 : Below wr.heap.size wr (wr.alloc o):=(Below.refl _ _).alloc (Nat.le_refl _) _
    exact ⟨hs.out.1.trans (hb1.mono hs.out.1.size),hs.out.2.1.below hb1,hs.out.2.2.trans (But.of_below hb1)⟩
   clear hc hx hT hK
   go_wp2_with (go_at_call 132;refine (H.out T HM.out w0 _ b _ depth _ X.out (hal.out _).1 hb (hal.out _).2.1 (uB HO.out T HM.out) (by have:=N1.out;have:=HN.out;omega) (by have:=N2.out;omega) hd1 (by have:=D1.out;have:=HD.out;omega)).mono ?_;rintro e w3 ⟨rfl,r1,r2,r3⟩)
   go_roundw
   case rel=>exact ⟨j + 1,by omega,by go_num,r1,by have e:=N1.out;rw [e] at r2;rw [show left - (aF l : Int) + (aF (l.drop (j + 1)) : Int) = left - aF l + ((T.nodes + aF (l.drop (j + 1)) : Nat) : Int) - T.nodes by omega];exact r2,(hal.out _).2.2.trans r3⟩
   case measure=>simp [intOf];omega
  ·go_wp2_with fail
   go_ret
   have e : l.drop j = []:=List.drop_of_length_le (by rw [← L1.out];omega)
   have h2:=hs.out.2.1
   rw [e] at h2
   exact ⟨rfl,hs.out.1,by simpa [aF] using h2,hs.out.2.2⟩
mutual
theorem term_yes : ∀ t : Tm,TmJ t
 | .mk v n ts=>term_step v n ts (rV ts (rT ts))
theorem rT : ∀ l : List Tm,∀ t ∈ l,TmJ t
 | [],_,h=>by cases h
 | x :: xs,t,h=>by
  rcases List.mem_cons.1 h with e | e
  ·rw [e];exact term_yes x
  ·exact rT xs t e
end
theorem terms_yes (l : List Tm) : TmsJ l:=rV l (rT l)
end Go.Proofs.YtppfalbnhnpbnaaGreatDoor
namespace Go.Proofs.YtppfalbnhnpbnaaGreatDoor
open Go Go.RowKit Ly
def jJ (op : Int) : Int:=if op = 1 then 1 else if op = 8 ∨ op = 9 then 2 else 0
def iL (op : Int) : Int:=if op = 1 then 4 else 0
def cU (w : World) : Prop:=∀ op : Int,1 ≤ op → op ≤ 14 →
 w.cell? ⟨0,op.toNat * 5,none⟩ = some (.bool true) ∧ w.cell? ⟨0,op.toNat * 5 + 1,none⟩ = some (.bool true) ∧ w.cell? ⟨0,op.toNat * 5 + 2,none⟩ = some (.int .u8 (jJ op)) ∧
 w.cell? ⟨0,op.toNat * 5 + 3,none⟩ = some (.int .i64 (iL op)) ∧ w.cell? ⟨0,op.toNat * 5 + 4,none⟩ = some (.int .i64 (arity op))
theorem cU.keep {w w' : World} (h : cU w) (k : bI w w') : cU w':=fun op h1 h2=>by
 obtain ⟨a,b,c,d,e⟩:=h op h1 h2
 exact ⟨k _ _ a,k _ _ b,k _ _ c,k _ _ d,k _ _ e⟩
def lI (k : Int) (s : Bs) : Prop:=(k = 1 ∧ cW s = true) ∨ (k = 2 ∧ bU s = true) ∨ (k = 0 ∧ s = [])
set_option maxHeartbeats 400000
theorem tJ (k : Int) (s : Bs) (w : World) (h : lI k s) : Calls Tryz.prog 77 #[.int .u8 k,str s] w fun e w'=>e = .returned (.bool true) ∧ Below w.heap.size w w':=by
 rcases h with ⟨rfl,h⟩ | ⟨rfl,h⟩ | ⟨rfl,rfl⟩
 ·have HV:=Lib.hid h
  have hlen : Hid (s.length ≤ 9223372036854775807):=by have:=jT h;show s.length ≤ _;omega
  clear h
  go_enter Tryz.func77,Tryz.ntmps77
  go_wp2_with (go_at_call 103;refine (oZ s _ hlen.out).mono ?_;rintro e w2 ⟨he,hb2⟩;rw [show cW s = true from HV.out] at he;subst he)
  go_ret
  exact ⟨rfl,hb2⟩
 ·have HV:=Lib.hid h
  have hlen : Hid (s.length ≤ 9223372036854775807):=by have:=jT h;show s.length ≤ _;omega
  clear h
  go_enter Tryz.func77,Tryz.ntmps77
  go_wp2_with (go_at_call 105;refine (kB s _ hlen.out).mono ?_;rintro e w2 ⟨he,hb2⟩;rw [show bU s = true from HV.out] at he;subst he)
  go_ret
  exact ⟨rfl,hb2⟩
 ·go_enter Tryz.func77,Tryz.ntmps77
  go_wp2_with fail
  go_ret
  exact ⟨rfl,Below.refl _ _⟩
def FmJ (f : Fm) : Prop:=∀ (w0 w : World) (b : Nat) (left depth : Int) (x : Value),cU w0 → aV w0 f x → Below w0.heap.size w0 w → w0.heap.size ≤ b → dD w b left → f.ok = true →
 (f.nodes : Int) ≤ left → left ≤ 400 → 1 ≤ depth → depth + f.depth ≤ 41 → Calls Tryz.prog 42 #[.pointer (some ⟨b,0,none⟩),x,.int .i64 depth] w (wR w0 b (left - f.nodes) w)
theorem sZ {l : List Fm} (h : bW l = true) : ∀ t ∈ l,t.ok = true:=by
 induction l with
 | nil=>intro t ht;cases ht
 | cons x xs ih =>
  simp only [bW,Bool.and_eq_true] at h
  intro t ht
  rcases List.mem_cons.1 ht with e | e
  ·rw [e];exact h.1
  ·exact ih h.2 t e
theorem fmsDepth_mem {l : List Fm} : ∀ t ∈ l,t.depth ≤ cL l:=by
 induction l with
 | nil=>intro t ht;cases ht
 | cons x xs ih =>
  intro t ht
  simp only [cL]
  rcases List.mem_cons.1 ht with e | e
  ·rw [e];omega
  ·have:=ih t e;omega
theorem fmsNodes_drop {l : List Fm} {j : Nat} {T : Fm} (h : l[j]? = some T) : aD (l.drop j) = T.nodes + aD (l.drop (j + 1)):=by
 obtain ⟨h1,rfl⟩:=List.getElem?_eq_some_iff.1 h
 rw [List.drop_eq_getElem_cons h1,aD]
theorem fmsNodes_drop_le (l : List Fm) (j : Nat) : aD (l.drop j) ≤ aD l:=by
 induction l generalizing j with
 | nil=>simp
 | cons x xs ih =>
  cases j with
  | zero=>simp
  | succ j=>simp only [List.drop_succ_cons,aD];have:=ih j;omega
theorem nameFits_of {op : Int} {n : Bs} {ts : List Tm} {fs : List Fm} (h : (Fm.mk op n ts fs).ok = true) : lI (jJ op) n ∧ (ts.length : Int) ≤ iL op ∧ fs.length = arity op ∧ 1 ≤ op ∧ op ≤ 14 ∧ cE ts = true ∧ bW fs = true:=by
 have ho:=Fm.ok_op h
 simp only [Fm.ok,Bool.and_eq_true,decide_eq_true_eq] at h
 obtain ⟨⟨⟨⟨l1,_⟩,h2⟩,h3⟩,h4⟩:=h
 refine ⟨?_, ?_,l1,by omega,by omega,h3,h4⟩
 ·unfold lI jJ
  by_cases o1 : op = 1
  ·simp_all
  ·by_cases o8 : op = 8 ∨ op = 9
   ·simp_all
   ·simp_all
 ·unfold iL
  by_cases o1 : op = 1
  ·simp_all;omega
  ·simp_all
theorem judged_of2 {w0 w w2 : World} {b : Nat} {left : Int} (n : Int) {o o' : Obj} (hw : Below w0.heap.size w0 w) (hb : w0.heap.size ≤ b) (hj : dD w b left)
  (h : Below (((w.setCell ⟨b,1,none⟩ (.int .i64 n)).alloc o).alloc o').heap.size (((w.setCell ⟨b,1,none⟩ (.int .i64 n)).alloc o).alloc o') w2) : Below w0.heap.size w0 w2 ∧ dD w2 b n ∧ But b w w2 :=
 oI n hw hb hj (bV h)
set_option maxHeartbeats 1600000 in
theorem form_step (op : Int) (n : Bs) (ts : List Tm) (fs : List Fm) (hh : ∀ f ∈ fs,FmJ f) : FmJ (.mk op n ts fs):=by
 intro w0 w b left depth x hrows hx hw hb hj hok hn hl hd1 hd2
 obtain ⟨a,k,c,a',m,d,rfl,hx,hx2⟩:=hx
 simp only [Fm.op,Fm.name,Fm.args,Fm.sub] at *
 have hk:=hx.len
 have hm:=hx2.len
 have hlk : k ≤ 9223372036854775807:=by have:=le63 hk.2.2;omega
 have hlm : m ≤ 9223372036854775807:=by have:=le63 hm.2.2;omega
 obtain ⟨f1,f2,f3,o1,o2,f4,f5⟩:=nameFits_of hok
 have hkA : (k : Int) ≤ iL op:=by rw [hk.1];exact f2
 have hn' : (1 : Int) ≤ left:=by simp only [Fm.nodes] at hn;omega
 have hd : depth ≤ 40:=by simp only [Fm.depth] at hd2;omega
 have hbl : b < w.heap.size:=hj.lt
 have hcells : ∀ w',bI w0 w' → w'.cell? ⟨0,op.toNat * 5,none⟩ = some (.bool true) ∧ w'.cell? ⟨0,op.toNat * 5 + 1,none⟩ = some (.bool true) ∧ w'.cell? ⟨0,op.toNat * 5 + 2,none⟩ = some (.int .u8 (jJ op)) ∧
   w'.cell? ⟨0,op.toNat * 5 + 3,none⟩ = some (.int .i64 (iL op)) ∧ w'.cell? ⟨0,op.toNat * 5 + 4,none⟩ = some (.int .i64 m):=fun w' kk=>by
  have:=hrows.keep kk op o1 o2
  rw [← f3,← hm.1] at this;exact this
 have hW1 : Below w0.heap.size w0 ((w.setCell ⟨b,1,none⟩ (.int .i64 (left - 1))).alloc (.cells #[.int .u8 op,str n,.slice a k c,.slice a' m d] 40)) :=
  ((But.set b w 1 none _).below hw hb).alloc (by have:=hw.size;simpa [World.setCell] using this) _
 obtain ⟨g0,g1,g2,g3,g4⟩:=hcells _ (aA hW1)
 have F1:=Lib.hid f1
 have HJ:=Lib.hid hj
 have HW:=Lib.hid hw
 have HX:=Lib.hid hx
 have HX2:=Lib.hid hx2
 have HR:=Lib.hid hrows
 have L2:=Lib.hid hm.1
 have H:=Lib.hid hh
 have HN : Hid ((aF ts : Int) ≤ left - 1 ∧ depth + 1 + cC ts ≤ 41 ∧ cE ts = true ∧ left - (Fm.mk op n ts fs).nodes = left - 1 - aF ts - aD fs ∧ (aD fs : Int) ≤ left - 1 - aF ts ∧ depth + 1 + cL fs ≤ 41 ∧ bW fs = true):=by
  simp only [Fm.nodes,Fm.depth] at *
  refine ⟨?_, ?_,f4, ?_, ?_, ?_,f5⟩ <;> omega
 generalize jJ op = srt at *
 generalize iL op = mx at *
 clear hW1 hx hx2 hk hm hok hn hj hw hd2 hrows f1 f2 f3 f4 f5 hcells hh
 go_enter Tryz.func42,Tryz.ntmps42
 go_wp2_with (first
  | (go_at_call 76;refine (rI b left depth _ (HJ.out.below (by exact (Below.refl _ _).alloc (Nat.le_refl _) _)) hn' hl hd).mono ?_;rintro e w1 ⟨rfl,rfl⟩)
  | (go_at_call 77;refine (tJ _ n _ F1.out).mono ?_;rintro e w2 ⟨rfl,hb2⟩;obtain ⟨hc2,hf2⟩:=nG hb2;have q:=Lib.hid (judged_of2 (left - 1) HW.out hb HJ.out hb2);clear hf2)
  | (go_at_call 79;refine (terms_yes ts w0 _ b (left - 1) (depth + 1) a k c HX.out q.out.1 hb q.out.2.1 HN.out.2.2.1 HN.out.1 (by omega) (by omega) HN.out.2.1).mono ?_;rintro e w3 ⟨rfl,r1,r2,r3⟩;have e3 : w3.cell? ⟨w.heap.size,3,none⟩ = some (.slice a' m d):=(by rw [r3.cell (by have:=hb2.size;simp at this;omega) (by omega),hc2 _ _ (by simp;omega)];simp [go_sem]);have R:=Lib.hid (And.intro r1 (And.intro r2 (q.out.2.2.trans r3)));clear hc2 q r1 r2 r3))
 go_loopw [79] (fun i wr=>∃ j : Nat,j ≤ m ∧ i = .int .i64 j ∧ Hid (Below w0.heap.size w0 wr ∧ dD wr b (left - 1 - aF ts - aD fs + aD (fs.drop j)) ∧ But b w wr)) (fun i _=>m - (intOf i).toNat)
 case atStart=>exact ⟨0,Nat.zero_le _,rfl,R.out.1,by have:=R.out.2.1;simpa using this,R.out.2.2⟩
 case round =>
  clear g0 g1 g2 g3 g4 e3 hb2
  obtain ⟨j,hj,rfl,hs⟩:=hrel
  by_cases hlt : j < m
  ·obtain ⟨T,hT⟩:=aT (l:=fs) (j:=j) (by rw [← L2.out];exact hlt)
   obtain ⟨bb,off,rfl,hc⟩:=HX2.out.get (aX hT)
   obtain ⟨x0,x1,x2,y0,y1,y2,hx⟩:=hc j _ hT
   have hK:=aA hs.out.1
   have c0:=hK _ _ hx.c0;have c1:=hK _ _ hx.c1;have c2:=hK _ _ hx.c2;have c3:=hK _ _ hx.c3
   have X : Hid (aV w0 T (.agg #[.int .u8 T.op,str T.name,.slice x0 x1 x2,.slice y0 y1 y2])):=⟨_,_,_,_,_,_,rfl,hx.at_,hx.at'⟩
   have HM:=Lib.hid (List.mem_of_getElem? hT)
   have N1:=Lib.hid (fmsNodes_drop hT)
   have N2:=Lib.hid (fmsNodes_drop_le fs j)
   have D1:=Lib.hid (fmsDepth_mem T HM.out)
   have hal : Hid (∀ o,Below w0.heap.size w0 (wr.alloc o) ∧ dD (wr.alloc o) b (left - 1 - aF ts - aD fs + aD (fs.drop j)) ∧ But b w (wr.alloc o)):=fun o=>by
    have hb1 : Below wr.heap.size wr (wr.alloc o):=(Below.refl _ _).alloc (Nat.le_refl _) _
    exact ⟨hs.out.1.trans (hb1.mono hs.out.1.size),hs.out.2.1.below hb1,hs.out.2.2.trans (But.of_below hb1)⟩
   clear hc hx hT hK
   go_wp2_with (go_at_call 42;refine (H.out T HM.out w0 _ b _ (depth + 1) _ HR.out X.out (hal.out _).1 hb (hal.out _).2.1 (sZ HN.out.2.2.2.2.2.2 T HM.out) (by have:=N1.out;have:=HN.out;omega) (by have:=N2.out;have:=HN.out;omega) (by omega) (by have:=D1.out;have:=HN.out.2.2.2.2.2.1;omega)).mono ?_;rintro e w3 ⟨rfl,r1,r2,r3⟩)
   go_roundw
   case rel=>exact ⟨j + 1,by omega,by go_num,r1,by have e:=N1.out;rw [e] at r2;rw [show left - 1 - (aF ts : Int) - (aD fs : Int) + (aD (fs.drop (j + 1)) : Int) = left - 1 - aF ts - aD fs + ((T.nodes + aD (fs.drop (j + 1)) : Nat) : Int) - T.nodes by omega];exact r2,(hal.out _).2.2.trans r3⟩
   case measure=>simp [intOf];omega
  ·go_wp2_with fail
   go_ret
   have e : fs.drop j = []:=List.drop_of_length_le (by rw [← L2.out];omega)
   have h2:=hs.out.2.1
   rw [e] at h2
   exact ⟨rfl,hs.out.1,by rw [HN.out.2.2.2.1];simpa [aD] using h2,hs.out.2.2⟩
mutual
theorem vW : ∀ t : Fm,FmJ t
 | .mk o n ts fs=>form_step o n ts fs (vV fs)
theorem vV : ∀ l : List Fm,∀ t ∈ l,FmJ t
 | [],_,h=>by cases h
 | x :: xs,t,h=>by
  rcases List.mem_cons.1 h with e | e
  ·rw [e];exact vW x
  ·exact vV xs t e
end
theorem sG (f : Fm) (x : Value) (w : World) (hr : cU w) (hx : aV w f x) (h : f.right = true) : Calls Tryz.prog 16 #[x] w fun e w'=>e = .returned (.bool true) ∧ Below w.heap.size w w':=by
 obtain ⟨a,k,c,a',m,d,rfl,h1,h2⟩:=hx
 have X : Hid (aV w f (.agg #[.int .u8 f.op,str f.name,.slice a k c,.slice a' m d])):=⟨_,_,_,_,_,_,rfl,h1,h2⟩
 have HR:=Lib.hid hr
 simp only [Fm.right,Bool.and_eq_true,decide_eq_true_eq] at h
 have HO:=Lib.hid h
 clear h h1 h2 hr
 go_enter Tryz.func16,Tryz.ntmps16
 go_wp2_with (go_at_call 42;refine (vW f w _ (w.heap.size + 1) 400 1 _ HR.out X.out (by exact ((Below.refl _ _).alloc (Nat.le_refl _) _).alloc (by simp) _) (by omega) ⟨by simp [go_sem],by simp [go_sem],by simp [go_sem],by simp [go_sem]⟩ HO.out.1.1 (by have:=HO.out.1.2;omega) (by omega) (by omega) (by have:=HO.out.2;omega)).mono ?_;rintro e w1 ⟨rfl,r1,_,_⟩)
 go_ret
 exact ⟨rfl,r1⟩
end Go.Proofs.YtppfalbnhnpbnaaGreatDoor
