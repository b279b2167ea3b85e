/- Contracts of package syntax's tests of bytes and names. -/
import Derived.Test.YtcandidgaegghaaGreatDoorCpZ
import Derived.Deep.RegionWith
import Derived.Deep.QuietTactic
import Derived.BigQuiet
import Derived.Lib.Hide
import Derived.Test.YtcandidgaegghaaGreatDoorMemZ
import Derived.Test.YtcandidgaegghaaGreatDoorProg
set_option maxRecDepth 10000
set_option linter.unusedSimpArgs false
set_option linter.unusedVariables false
namespace Go.Proofs.YtcandidgaegghaaGreatDoor
open Go Go.RowKit Ly
def lQ (c : UInt8) : Bool:=117 ≤ c && c ≤ 122
def lF (c : UInt8) : Bool:=97 ≤ c && c ≤ 116
def uR (f : FuncId) (p : UInt8 → Bool) : Prop:=∀ (c : UInt8) (w : World),Calls Tryz.prog f #[.int .u8 c.toNat] w fun e w'=>e = .returned (.bool (p c)) ∧ w = w'
theorem aY {a b : Bool} (h : a = b) : Ending.returned (.bool a) = .returned (.bool b):=by rw [h]
set_option maxHeartbeats 400000
theorem small_c : uR 305 small:=by
 intro c w
 go_enter Tryz.func305,Tryz.ntmps305
 go_wp2
 all_goals go_ret
 all_goals exact ⟨aY (by rw [Bool.eq_iff_iff];simp [small,UInt8.le_iff_toNat_le];omega),rfl⟩
theorem zV : uR 269 cZ:=by
 intro c w
 go_enter Tryz.func269,Tryz.ntmps269
 go_wp2
 all_goals go_ret
 all_goals exact ⟨aY (by rw [Bool.eq_iff_iff];simp [cZ,UInt8.le_iff_toNat_le];omega),rfl⟩
theorem JE : uR 302 digit:=by
 intro c w
 go_enter Tryz.func302,Tryz.ntmps302
 go_wp2
 all_goals go_ret
 all_goals exact ⟨aY (by rw [Bool.eq_iff_iff];simp [digit,UInt8.le_iff_toNat_le];omega),rfl⟩
theorem varFirst_c : uR 301 lQ:=by
 intro c w
 go_enter Tryz.func301,Tryz.ntmps301
 go_wp2
 all_goals go_ret
 all_goals exact ⟨aY (by rw [Bool.eq_iff_iff];simp [lQ,UInt8.le_iff_toNat_le];omega),rfl⟩
theorem funFirst_c : uR 313 lF:=by
 intro c w
 go_enter Tryz.func313,Tryz.ntmps313
 go_wp2
 all_goals go_ret
 all_goals exact ⟨aY (by rw [Bool.eq_iff_iff];simp [lF,UInt8.le_iff_toNat_le];omega),rfl⟩
theorem IR : uR 270 bR:=by
 intro c w
 have e : Hid (bR c = (small c || cZ c || digit c)):=rfl
 generalize h1 : small c = b1 at e
 generalize h2 : cZ c = b2 at e
 generalize h3 : digit c = b3 at e
 have H1:=Hd h1;have H2:=Hd h2;have H3:=Hd h3
 clear h1 h2 h3
 cases b1 <;> cases b2 <;> cases b3
 all_goals
  go_enter Tryz.func270,Tryz.ntmps270
  go_wp2_with (first
   | (go_at_call 305;refine (small_c c _).mono ?_;rintro e w1 ⟨he,hw⟩;rw [H1.out] at he;subst he hw)
   | (go_at_call 269;refine (zV c _).mono ?_;rintro e w1 ⟨he,hw⟩;rw [H2.out] at he;subst he hw)
   | (go_at_call 302;refine (JE c _).mono ?_;rintro e w1 ⟨he,hw⟩;rw [H3.out] at he;subst he hw))
  go_ret
  exact ⟨aY (by rw [e.out];rfl),rfl⟩
theorem rL (s : Bs) (w : World) : Calls Tryz.prog 304 #[str s] w fun e w'=>e = .returned (.bool (eG s)) ∧ w = w':=by
 go_enter Tryz.func304,Tryz.ntmps304
 go_wp2
 all_goals first
  | (exfalso;simp_all;done)
  | (go_ret;exact ⟨aY (by simp [eG,wAll,eA,cF,iZ,eO,mK, *]),rfl⟩)
theorem uR.quiet {f : FuncId} {p : UInt8 → Bool} (h : uR f p) (c : UInt8) (w : World) (n : Nat) :
  Calls Tryz.prog f #[.int .u8 c.toNat] (w.drewN n) fun e w''=>e = .returned (.bool (p c)) ∧ ∃ m,w'' = w.drewN m :=
 (h c _).mono fun _ _ ⟨he,hw⟩=>⟨he,n,hw.symm⟩
theorem sB (q : UInt8 → Bool) {r : Bs} {k : Nat} (h : k < r.length) : (r.drop k).all q = (q (r[k]) && (r.drop (k+1)).all q):=by
 rw [List.drop_eq_getElem_cons h,List.all_cons]
set_option maxHeartbeats 1600000 in
theorem checkVar_c (s : Bs) (b b' : Nat) (w : World) (hs : s.length ≤ 9223372036854775807)
  (c1 : w.cell? ⟨b,0,none⟩ = some (.func (.func 301) #[] #[])) (c2 : w.cell? ⟨b',0,none⟩ = some (.func (.func 302) #[] #[])) :
  Calls Tryz.prog 303 #[str s,.pointer (some ⟨b,0,none⟩),.pointer (some ⟨b',0,none⟩)] w fun e w'=>e = .returned (.bool (dA lQ digit s)) ∧ ∃ n,w' = w.drewN n:=by
 cases s with
 | nil =>
  go_enter Tryz.func303,Tryz.ntmps303
  go_wp2_with fail
  go_quiet (fail)
  go_wp2_with fail
  go_ret
  exact ⟨rfl,_,rfl⟩
 | cons c r =>
  have hr : r.length + 1 ≤ 9223372036854775807:=by simpa using hs
  have d1 : decide ((r.length : Int) + 1 < 1) = false:=by simp;omega
  clear hs
  by_cases hl : 16 < r.length + 1
  ·have d2 : decide (16 < (r.length : Int) + 1) = true:=by simp;omega
   go_enter Tryz.func303,Tryz.ntmps303
   go_wp2_with fail
   go_quiet (fail)
   go_wp2_with fail
   go_ret
   exact ⟨aY (by simp [dA];omega),_,rfl⟩
  ·have d2 : decide (16 < (r.length : Int) + 1) = false:=by simp;omega
   have e : Hid (dA lQ digit (c :: r) = (!eG (c :: r) && lQ c && r.all digit)):=by
    show dA lQ digit (c :: r) = _
    rw [dA,decide_eq_true (by omega),Bool.true_and]
   generalize h3 : eG (c :: r) = b3 at e
   have R3 : Hid (∀ n,Calls Tryz.prog 304 #[str (c :: r)] (w.drewN n) fun e w''=>e = .returned (.bool b3) ∧ ∃ m,w'' = w.drewN m) :=
    fun n=>(rL _ _).mono fun _ _ ⟨he,hw⟩=>⟨he.trans (by rw [h3]),n,hw.symm⟩
   generalize h4 : lQ c = b4 at e
   have R4 : Hid (∀ n,Calls Tryz.prog 301 #[.int .u8 c.toNat] (w.drewN n) fun e w''=>e = .returned (.bool b4) ∧ ∃ m,w'' = w.drewN m) :=
    fun n=>(varFirst_c.quiet c w n).mono fun _ _ ⟨he,hw⟩=>⟨he.trans (by rw [h4]),hw⟩
   clear h3 h4
   cases b3 <;> cases b4
   all_goals
    go_enter Tryz.func303,Tryz.ntmps303
    go_wp2_with fail
    go_quiet (first | (go_at_call 304;exact R3.out _) | (go_at_call 301;exact R4.out _))
    go_wp2_with fail
    try (go_ret;exact ⟨aY (by rw [e.out];rfl),_,rfl⟩)
   clear R3 R4
   go_loopw [5] (fun i wr=>∃ k : Nat,k ≤ r.length ∧ i = .int .i64 (k + 1 : Nat) ∧ (∃ n,wr = w.drewN n) ∧ Hid (r.all digit = (r.drop k).all digit)) (fun i _=>r.length + 1 - (intOf i).toNat)
   case atStart=>exact ⟨0,Nat.zero_le _,rfl,⟨_,rfl⟩,rfl⟩
   case round =>
    obtain ⟨k,hk,rfl,⟨n,rfl⟩,hs⟩:=hrel
    by_cases hlt : k < r.length
    ·have S:=Hd (sB digit hlt)
     generalize h5 : digit (r[k]'hlt) = b5 at S
     have R5 : Hid (∀ m,Calls Tryz.prog 302 #[.int .u8 (r[k]'hlt).toNat] (w.drewN (n + m)) fun e w''=>e = .returned (.bool b5) ∧ ∃ j,w'' = w.drewN (n + j)) :=
      fun m=>(JE (r[k]'hlt) (w.drewN (n + m))).mono fun _ _ ⟨he,hw⟩=>⟨he.trans (by rw [h5]),m,hw.symm⟩
     clear h5
     have t1 : ((k : Int) + 1).toNat = k + 1:=by omega
     have t2 : (0 : Int) ≤ (k : Int) + 1:=by omega
     have t3 : k + 1 < r.length + 1:=by omega
     cases b5
     ·go_wp2_with fail
      go_quiet (first | (go_at_call 302;exact R5.out _))
      go_wp2_with fail
      go_ret
      exact ⟨aY (by rw [e.out,hs.out,S.out];rfl),_,World.drewN_drewN _ _ _⟩
     ·go_wp2_with fail
      go_quiet (first | (go_at_call 302;exact R5.out _))
      go_wp2_with fail
      go_roundw
      case rel=>exact ⟨k + 1,by omega,by go_num,⟨_,rfl⟩,by have q:=hs.out.trans S.out;simp only [Bool.true_and] at q;exact q⟩
      case measure=>simp [intOf];omega
    ·go_wp2_with fail
     go_ret
     exact ⟨aY (by rw [e.out,hs.out,List.drop_of_length_le (by omega)];rfl),_,rfl⟩
set_option maxHeartbeats 1600000 in
theorem checkFun_c (s : Bs) (b b' : Nat) (w : World) (hs : s.length ≤ 9223372036854775807)
  (c1 : w.cell? ⟨b,0,none⟩ = some (.func (.func 313) #[] #[])) (c2 : w.cell? ⟨b',0,none⟩ = some (.func (.func 270) #[] #[])) :
  Calls Tryz.prog 303 #[str s,.pointer (some ⟨b,0,none⟩),.pointer (some ⟨b',0,none⟩)] w fun e w'=>e = .returned (.bool (dA lF bR s)) ∧ ∃ n,w' = w.drewN n:=by
 cases s with
 | nil =>
  go_enter Tryz.func303,Tryz.ntmps303
  go_wp2_with fail
  go_quiet (fail)
  go_wp2_with fail
  go_ret
  exact ⟨rfl,_,rfl⟩
 | cons c r =>
  have hr : r.length + 1 ≤ 9223372036854775807:=by simpa using hs
  have d1 : decide ((r.length : Int) + 1 < 1) = false:=by simp;omega
  clear hs
  by_cases hl : 16 < r.length + 1
  ·have d2 : decide (16 < (r.length : Int) + 1) = true:=by simp;omega
   go_enter Tryz.func303,Tryz.ntmps303
   go_wp2_with fail
   go_quiet (fail)
   go_wp2_with fail
   go_ret
   exact ⟨aY (by simp [dA];omega),_,rfl⟩
  ·have d2 : decide (16 < (r.length : Int) + 1) = false:=by simp;omega
   have e : Hid (dA lF bR (c :: r) = (!eG (c :: r) && lF c && r.all bR)):=by
    show dA lF bR (c :: r) = _
    rw [dA,decide_eq_true (by omega),Bool.true_and]
   generalize h3 : eG (c :: r) = b3 at e
   have R3 : Hid (∀ n,Calls Tryz.prog 304 #[str (c :: r)] (w.drewN n) fun e w''=>e = .returned (.bool b3) ∧ ∃ m,w'' = w.drewN m) :=
    fun n=>(rL _ _).mono fun _ _ ⟨he,hw⟩=>⟨he.trans (by rw [h3]),n,hw.symm⟩
   generalize h4 : lF c = b4 at e
   have R4 : Hid (∀ n,Calls Tryz.prog 313 #[.int .u8 c.toNat] (w.drewN n) fun e w''=>e = .returned (.bool b4) ∧ ∃ m,w'' = w.drewN m) :=
    fun n=>(funFirst_c.quiet c w n).mono fun _ _ ⟨he,hw⟩=>⟨he.trans (by rw [h4]),hw⟩
   clear h3 h4
   cases b3 <;> cases b4
   all_goals
    go_enter Tryz.func303,Tryz.ntmps303
    go_wp2_with fail
    go_quiet (first | (go_at_call 304;exact R3.out _) | (go_at_call 313;exact R4.out _))
    go_wp2_with fail
    try (go_ret;exact ⟨aY (by rw [e.out];rfl),_,rfl⟩)
   clear R3 R4
   go_loopw [5] (fun i wr=>∃ k : Nat,k ≤ r.length ∧ i = .int .i64 (k + 1 : Nat) ∧ (∃ n,wr = w.drewN n) ∧ Hid (r.all bR = (r.drop k).all bR)) (fun i _=>r.length + 1 - (intOf i).toNat)
   case atStart=>exact ⟨0,Nat.zero_le _,rfl,⟨_,rfl⟩,rfl⟩
   case round =>
    obtain ⟨k,hk,rfl,⟨n,rfl⟩,hs⟩:=hrel
    by_cases hlt : k < r.length
    ·have S:=Hd (sB bR hlt)
     generalize h5 : bR (r[k]'hlt) = b5 at S
     have R5 : Hid (∀ m,Calls Tryz.prog 270 #[.int .u8 (r[k]'hlt).toNat] (w.drewN (n + m)) fun e w''=>e = .returned (.bool b5) ∧ ∃ j,w'' = w.drewN (n + j)) :=
      fun m=>(IR (r[k]'hlt) (w.drewN (n + m))).mono fun _ _ ⟨he,hw⟩=>⟨he.trans (by rw [h5]),m,hw.symm⟩
     clear h5
     have t1 : ((k : Int) + 1).toNat = k + 1:=by omega
     have t2 : (0 : Int) ≤ (k : Int) + 1:=by omega
     have t3 : k + 1 < r.length + 1:=by omega
     cases b5
     ·go_wp2_with fail
      go_quiet (first | (go_at_call 270;exact R5.out _))
      go_wp2_with fail
      go_ret
      exact ⟨aY (by rw [e.out,hs.out,S.out];rfl),_,World.drewN_drewN _ _ _⟩
     ·go_wp2_with fail
      go_quiet (first | (go_at_call 270;exact R5.out _))
      go_wp2_with fail
      go_roundw
      case rel=>exact ⟨k + 1,by omega,by go_num,⟨_,rfl⟩,by have q:=hs.out.trans S.out;simp only [Bool.true_and] at q;exact q⟩
      case measure=>simp [intOf];omega
    ·go_wp2_with fail
     go_ret
     exact ⟨aY (by rw [e.out,hs.out,List.drop_of_length_le (by omega)];rfl),_,rfl⟩
set_option maxHeartbeats 1600000 in
theorem checkPred_c (s : Bs) (b b' : Nat) (w : World) (hs : s.length ≤ 9223372036854775807)
  (c1 : w.cell? ⟨b,0,none⟩ = some (.func (.func 269) #[] #[])) (c2 : w.cell? ⟨b',0,none⟩ = some (.func (.func 270) #[] #[])) :
  Calls Tryz.prog 303 #[str s,.pointer (some ⟨b,0,none⟩),.pointer (some ⟨b',0,none⟩)] w fun e w'=>e = .returned (.bool (dA cZ bR s)) ∧ ∃ n,w' = w.drewN n:=by
 cases s with
 | nil =>
  go_enter Tryz.func303,Tryz.ntmps303
  go_wp2_with fail
  go_quiet (fail)
  go_wp2_with fail
  go_ret
  exact ⟨rfl,_,rfl⟩
 | cons c r =>
  have hr : r.length + 1 ≤ 9223372036854775807:=by simpa using hs
  have d1 : decide ((r.length : Int) + 1 < 1) = false:=by simp;omega
  clear hs
  by_cases hl : 16 < r.length + 1
  ·have d2 : decide (16 < (r.length : Int) + 1) = true:=by simp;omega
   go_enter Tryz.func303,Tryz.ntmps303
   go_wp2_with fail
   go_quiet (fail)
   go_wp2_with fail
   go_ret
   exact ⟨aY (by simp [dA];omega),_,rfl⟩
  ·have d2 : decide (16 < (r.length : Int) + 1) = false:=by simp;omega
   have e : Hid (dA cZ bR (c :: r) = (!eG (c :: r) && cZ c && r.all bR)):=by
    show dA cZ bR (c :: r) = _
    rw [dA,decide_eq_true (by omega),Bool.true_and]
   generalize h3 : eG (c :: r) = b3 at e
   have R3 : Hid (∀ n,Calls Tryz.prog 304 #[str (c :: r)] (w.drewN n) fun e w''=>e = .returned (.bool b3) ∧ ∃ m,w'' = w.drewN m) :=
    fun n=>(rL _ _).mono fun _ _ ⟨he,hw⟩=>⟨he.trans (by rw [h3]),n,hw.symm⟩
   generalize h4 : cZ c = b4 at e
   have R4 : Hid (∀ n,Calls Tryz.prog 269 #[.int .u8 c.toNat] (w.drewN n) fun e w''=>e = .returned (.bool b4) ∧ ∃ m,w'' = w.drewN m) :=
    fun n=>(zV.quiet c w n).mono fun _ _ ⟨he,hw⟩=>⟨he.trans (by rw [h4]),hw⟩
   clear h3 h4
   cases b3 <;> cases b4
   all_goals
    go_enter Tryz.func303,Tryz.ntmps303
    go_wp2_with fail
    go_quiet (first | (go_at_call 304;exact R3.out _) | (go_at_call 269;exact R4.out _))
    go_wp2_with fail
    try (go_ret;exact ⟨aY (by rw [e.out];rfl),_,rfl⟩)
   clear R3 R4
   go_loopw [5] (fun i wr=>∃ k : Nat,k ≤ r.length ∧ i = .int .i64 (k + 1 : Nat) ∧ (∃ n,wr = w.drewN n) ∧ Hid (r.all bR = (r.drop k).all bR)) (fun i _=>r.length + 1 - (intOf i).toNat)
   case atStart=>exact ⟨0,Nat.zero_le _,rfl,⟨_,rfl⟩,rfl⟩
   case round =>
    obtain ⟨k,hk,rfl,⟨n,rfl⟩,hs⟩:=hrel
    by_cases hlt : k < r.length
    ·have S:=Hd (sB bR hlt)
     generalize h5 : bR (r[k]'hlt) = b5 at S
     have R5 : Hid (∀ m,Calls Tryz.prog 270 #[.int .u8 (r[k]'hlt).toNat] (w.drewN (n + m)) fun e w''=>e = .returned (.bool b5) ∧ ∃ j,w'' = w.drewN (n + j)) :=
      fun m=>(IR (r[k]'hlt) (w.drewN (n + m))).mono fun _ _ ⟨he,hw⟩=>⟨he.trans (by rw [h5]),m,hw.symm⟩
     clear h5
     have t1 : ((k : Int) + 1).toNat = k + 1:=by omega
     have t2 : (0 : Int) ≤ (k : Int) + 1:=by omega
     have t3 : k + 1 < r.length + 1:=by omega
     cases b5
     ·go_wp2_with fail
      go_quiet (first | (go_at_call 270;exact R5.out _))
      go_wp2_with fail
      go_ret
      exact ⟨aY (by rw [e.out,hs.out,S.out];rfl),_,World.drewN_drewN _ _ _⟩
     ·go_wp2_with fail
      go_quiet (first | (go_at_call 270;exact R5.out _))
      go_wp2_with fail
      go_roundw
      case rel=>exact ⟨k + 1,by omega,by go_num,⟨_,rfl⟩,by have q:=hs.out.trans S.out;simp only [Bool.true_and] at q;exact q⟩
      case measure=>simp [intOf];omega
    ·go_wp2_with fail
     go_ret
     exact ⟨aY (by rw [e.out,hs.out,List.drop_of_length_le (by omega)];rfl),_,rfl⟩
set_option maxHeartbeats 400000 in
theorem eS (s : Bs) (w : World) (hs : s.length ≤ 9223372036854775807) : Calls Tryz.prog 266 #[str s] w (Rt (.bool (aZ s)) w):=by
 have HS:=Hd hs;clear hs
 go_enter Tryz.func266,Tryz.ntmps266
 go_wp2_with (first | (go_at_call 268;go_in) | (go_at_call 303;refine (checkVar_c s _ _ _ HS.out (by simp [go_sem]) (by simp [go_sem])).mono ?_;rintro e w1 ⟨rfl,n,rfl⟩))
 go_ret
 exact ⟨rfl,by
  have h : Below w.heap.size w ((w.alloc (.cells #[.func (.func 301) #[] #[]] 271)).alloc (.cells #[.func (.func 302) #[] #[]] 271)):=bnew.alloc (by simp) _
  exact ⟨h.os,h.tape,h.output,h.size,h.block⟩⟩
set_option maxHeartbeats 400000 in
theorem nC (s : Bs) (w : World) (hs : s.length ≤ 9223372036854775807) : Calls Tryz.prog 307 #[str s] w (Rt (.bool (dO s)) w):=by
 have HS:=Hd hs;clear hs
 go_enter Tryz.func307,Tryz.ntmps307
 go_wp2_with (first | (go_at_call 268;go_in) | (go_at_call 303;refine (checkFun_c s _ _ _ HS.out (by simp [go_sem]) (by simp [go_sem])).mono ?_;rintro e w1 ⟨rfl,n,rfl⟩))
 go_ret
 exact ⟨rfl,by
  have h : Below w.heap.size w ((w.alloc (.cells #[.func (.func 313) #[] #[]] 271)).alloc (.cells #[.func (.func 270) #[] #[]] 271)):=bnew.alloc (by simp) _
  exact ⟨h.os,h.tape,h.output,h.size,h.block⟩⟩
set_option maxHeartbeats 400000 in
theorem lT (s : Bs) (w : World) (hs : s.length ≤ 9223372036854775807) : Calls Tryz.prog 198 #[str s] w (Rt (.bool (bN s)) w):=by
 have HS:=Hd hs;clear hs
 go_enter Tryz.func198,Tryz.ntmps198
 go_wp2_with (first | (go_at_call 268;go_in) | (go_at_call 303;refine (checkPred_c s _ _ _ HS.out (by simp [go_sem]) (by simp [go_sem])).mono ?_;rintro e w1 ⟨rfl,n,rfl⟩))
 go_ret
 exact ⟨rfl,by
  have h : Below w.heap.size w ((w.alloc (.cells #[.func (.func 269) #[] #[]] 271)).alloc (.cells #[.func (.func 270) #[] #[]] 271)):=bnew.alloc (by simp) _
  exact ⟨h.os,h.tape,h.output,h.size,h.block⟩⟩
open Go Go.RowKit Ly
structure But (b : Nat) (w w' : World) : Prop where
 os : w'.os = w.os
 tape : w'.tape = w.tape
 output : w'.output = w.output
 size : w.heap.size ≤ w'.heap.size
 block : ∀ k,k < w.heap.size → k ≠ b → w'.heap[k]? = w.heap[k]?
theorem But.refl (b : Nat) (w : World) : But b w w:=⟨rfl,rfl,rfl,Nat.le_refl _,fun _ _ _=>rfl⟩
theorem But.trans {b : Nat} {u v w : World} (h : But b u v) (k : But b v w) : But b u w :=
 ⟨k.os.trans h.os,k.tape.trans h.tape,k.output.trans h.output,Nat.le_trans h.size k.size,fun i hi hb=>(k.block i (Nat.lt_of_lt_of_le hi h.size) hb).trans (h.block i hi hb)⟩
theorem But.of_below {b : Nat} {w w' : World} (h : Below w.heap.size w w') : But b w w':=⟨h.os,h.tape,h.output,h.size,fun k hk _=>h.block k hk⟩
theorem But.set (b : Nat) (w : World) (o : Nat) (s : Option Nat) (v : Value) : But b w (w.setCell ⟨b,o,s⟩ v) :=
 ⟨rfl,rfl,rfl,by simp [World.setCell],fun k _ hb=>Below.heap_setCell _ _ _ _ hb⟩
theorem But.below {b : Nat} {w w' : World} (h : But b w w') {w0 : World} (hw : Below w0.heap.size w0 w) (hb : w0.heap.size ≤ b) : Below w0.heap.size w0 w' :=
 hw.trans ⟨h.os,h.tape,h.output,h.size,fun k hk=>h.block k (Nat.lt_of_lt_of_le hk hw.size) (by omega)⟩
theorem But.cell {b : Nat} {w w' : World} (h : But b w w') {k o : Nat} (hk : k < w.heap.size) (hb : k ≠ b) : w'.cell? ⟨k,o,none⟩ = w.cell? ⟨k,o,none⟩:=World.cell?_of_block (w:=w) (h.block k hk hb)
structure bO (w : World) (b : Nat) (left : Int) : Prop where
 c0 : w.cell? ⟨b,0,none⟩ = some (.bool false)
 c1 : w.cell? ⟨b,1,none⟩ = some (.int .i64 left)
 c2 : w.cell? ⟨b,2,none⟩ = some (.int .i64 40)
 fz : w.frozen? ⟨b,1,none⟩ = false
theorem bO.lt {w : World} {b : Nat} {left : Int} (h : bO w b left) : b < w.heap.size:=World.block_lt_of_cell? w _ h.c0
theorem bO.below {w w' : World} {b : Nat} {left : Int} (h : bO w b left) (k : Below w.heap.size w w') : bO w' b left:=by
 have hl:=h.lt
 exact ⟨(k.cell (p:=⟨b,0,none⟩) hl).trans h.c0,(k.cell (p:=⟨b,1,none⟩) hl).trans h.c1,(k.cell (p:=⟨b,2,none⟩) hl).trans h.c2,(k.frozen (p:=⟨b,1,none⟩) hl).trans h.fz⟩
set_option maxHeartbeats 400000
theorem eF (b : Nat) (left depth : Int) (w : World) (h : bO w b left) (h1 : 1 ≤ left) (h2 : left ≤ 400) (h3 : depth ≤ 40) :
  Calls Tryz.prog 233 #[.pointer (some ⟨b,0,none⟩),.int .i64 depth] w fun e w'=>e = .returned (.bool true) ∧ w' = w.setCell ⟨b,1,none⟩ (.int .i64 (left - 1)):=by
 obtain ⟨c0,c1,c2,fz⟩:=h
 have d1 : (0 : Int) ≤ left - 1:=by omega
 go_enter Tryz.func233,Tryz.ntmps233
 go_wp2
 go_ret
 exact ⟨rfl,rfl⟩
theorem bO.set {w : World} {b : Nat} {left : Int} (h : bO w b left) (n : Int) : bO (w.setCell ⟨b,1,none⟩ (.int .i64 n)) b n:=by
 obtain ⟨c0,c1,c2,fz⟩:=h
 exact ⟨by simp [c0,go_sem],by simp [c1,go_sem],by simp [c2,go_sem],by simp [fz,go_sem]⟩
def GX (w0 : World) (b : Nat) (left : Int) (w : World) (e : Ending) (w' : World) : Prop :=
 e = .returned (.bool true) ∧ Below w0.heap.size w0 w' ∧ bO w' b left ∧ But b w w'
def TmJ (t : Tm) : Prop:=∀ (w0 w : World) (b : Nat) (left depth : Int) (x : Value),iS w0 t x → Below w0.heap.size w0 w → w0.heap.size ≤ b → bO w b left → t.ok = true →
 (t.nodes : Int) ≤ left → left ≤ 400 → 1 ≤ depth → depth + t.depth ≤ 41 → Calls Tryz.prog 284 #[.pointer (some ⟨b,0,none⟩),x,.int .i64 depth] w (GX w0 b (left - t.nodes) w)
def TmsJ (l : List Tm) : Prop:=∀ (w0 w : World) (b : Nat) (left depth : Int) (a : Option Addr) (k c : Nat),bI w0 l (.slice a k c) → Below w0.heap.size w0 w → w0.heap.size ≤ b → bO w b left → cJ l = true →
 (aD l : Int) ≤ left → left ≤ 400 → 1 ≤ depth → depth + bG l ≤ 41 → Calls Tryz.prog 236 #[.pointer (some ⟨b,0,none⟩),.slice a k c,.int .i64 depth] w (GX w0 b (left - aD l) w)
theorem fM {first other : UInt8 → Bool} {s : Bs} (h : dA first other s = true) : s.length ≤ 16:=by
 cases s with
 | nil=>simp
 | cons c r=>simp [dA] at h;simp;exact h.1.1.1
theorem kV {w0 w w2 : World} {b : Nat} {left : Int} (n : Int) {o : Obj} (hw : Below w0.heap.size w0 w) (hb : w0.heap.size ≤ b) (hj : bO w b left)
  (h : Below ((w.setCell ⟨b,1,none⟩ (.int .i64 n)).alloc o).heap.size ((w.setCell ⟨b,1,none⟩ (.int .i64 n)).alloc o) w2) : Below w0.heap.size w0 w2 ∧ bO w2 b n ∧ But b w w2:=by
 have k : But b w w2:=(But.set b w 1 none _).trans (But.of_below (bB h))
 exact ⟨k.below hw hb,(hj.set n).below (bB h),k⟩
theorem term_step (v : Bool) (n : Bs) (ts : List Tm) (ih : TmsJ ts) : TmJ (.mk v n ts):=by
 intro w0 w b left depth x hx hw hb hj hok hn hl hd1 hd2
 obtain ⟨a,k,c,rfl,hx⟩:=hx
 simp only [Tm.v,Tm.name,Tm.args] at *
 have hk:=hx.len
 have hn' : (1 : Int) ≤ left:=by simp only [Tm.nodes] at hn;omega
 have hd : depth ≤ 40:=by simp only [Tm.depth] at hd2;omega
 have hbl : b < w.heap.size:=hj.lt
 cases v with
 | true =>
  have hts : ts = []:=by simp only [Tm.ok] at hok;simp_all
  have hv : aZ n = true:=by simp only [Tm.ok] at hok;simp_all
  subst hts
  have hk0 : k = 0:=by simpa using hk.1
  subst hk0
  have HV:=Hd hv
  have HJ:=Hd hj
  have HW:=Hd hw
  have hlen : Hid (n.length ≤ 9223372036854775807):=by
   have:=fM hv
   show n.length ≤ _;omega
  clear hx hk hv hok hn hj hw hd2
  go_enter Tryz.func284,Tryz.ntmps284
  go_wp2_with (first
   | (go_at_call 233;refine (eF b left depth _ (HJ.out.below (by exact bnew)) hn' hl hd).mono ?_;rintro e w1 ⟨rfl,rfl⟩)
   | (go_at_call 266;refine (eS n _ hlen.out).mono ?_;rintro e w2 ⟨he,hb2⟩;rw [show aZ n = true from HV.out] at he;subst he))
  go_ret
  obtain ⟨q1,q2,q3⟩:=kV (left - 1) HW.out hb HJ.out hb2
  exact ⟨rfl,q1,q2,q3⟩
 | false =>
  have hf : dO n = true:=by simp only [Tm.ok] at hok;simp_all
  have h4 : ts.length ≤ 4:=by simp only [Tm.ok] at hok;simp_all
  have ho : cJ ts = true:=by simp only [Tm.ok] at hok;simp_all
  have hkl : k ≤ 4:=by rw [hk.1];exact h4
  have HV:=Hd hf
  have HJ:=Hd hj
  have HW:=Hd hw
  have HX:=Hd hx
  have HN : Hid ((aD ts : Int) ≤ left - 1 ∧ depth + 1 + bG ts ≤ 41 ∧ cJ ts = true ∧ left - (Tm.mk false n ts).nodes = left - 1 - aD ts):=by
   simp only [Tm.nodes,Tm.depth] at *
   refine ⟨?_, ?_,ho, ?_⟩ <;> omega
  have HI:=Hd ih
  have hlen : Hid (n.length ≤ 9223372036854775807):=by
   have:=fM hf
   show n.length ≤ _;omega
  clear hx hk hf hok hn hj hw hd2 h4 ho ih
  go_enter Tryz.func284,Tryz.ntmps284
  go_wp2_with (first
   | (go_at_call 233;refine (eF b left depth _ (HJ.out.below (by exact bnew)) hn' hl hd).mono ?_;rintro e w1 ⟨rfl,rfl⟩)
   | (go_at_call 307;refine (nC n _ hlen.out).mono ?_;rintro e w2 ⟨he,hb2⟩;rw [show dO n = true from HV.out] at he;subst he;obtain ⟨hc2,hf2⟩:=eP hb2;have q:=Hd (kV (left - 1) HW.out hb HJ.out hb2))
   | (go_at_call 236;refine (HI.out w0 _ b (left - 1) (depth + 1) a k c HX.out q.out.1 hb q.out.2.1 HN.out.2.2.1 HN.out.1 (by omega) (by omega) HN.out.2.1).mono ?_;rintro e w3 ⟨rfl,r1,r2,r3⟩))
  go_ret
  exact ⟨rfl,r1,by rw [HN.out.2.2.2];exact r2,q.out.2.2.trans r3⟩
theorem tmsOk_mem {l : List Tm} (h : cJ l = true) : ∀ t ∈ l,t.ok = true:=by
 induction l with
 | nil=>intro t ht;cases ht
 | cons x xs ih =>
  simp only [cJ,Bool.and_eq_true] at h
  intro t ht
  rcases List.mem_cons.1 ht with e | e
  ·rw [e];exact h.1
  ·exact ih h.2 t e
theorem tQ {l : List Tm} : ∀ t ∈ l,t.depth ≤ bG l:=by
 induction l with
 | nil=>intro t ht;cases ht
 | cons x xs ih =>
  intro t ht
  simp only [bG]
  rcases List.mem_cons.1 ht with e | e
  ·rw [e];omega
  ·have:=ih t e;omega
theorem tmsNodes_drop {l : List Tm} {j : Nat} {T : Tm} (h : l[j]? = some T) : aD (l.drop j) = T.nodes + aD (l.drop (j + 1)):=by
 obtain ⟨h1,rfl⟩:=List.getElem?_eq_some_iff.1 h
 rw [List.drop_eq_getElem_cons h1,aD]
theorem tmsNodes_drop_le (l : List Tm) (j : Nat) : aD (l.drop j) ≤ aD l:=by
 induction l generalizing j with
 | nil=>simp
 | cons x xs ih =>
  cases j with
  | zero=>simp
  | succ j=>simp only [List.drop_succ_cons,aD];have:=ih j;omega
theorem zB (l : List Tm) (hh : ∀ t ∈ l,TmJ t) : TmsJ l:=by
 intro w0 w b left depth a k c hx hw hb hj hok hn hl hd1 hd2
 have hk:=hx.len
 have hlen : k ≤ 9223372036854775807:=by have:=le63 hk.2.2;omega
 have L1:=Hd hk.1
 have H:=Hd hh
 have HX:=Hd hx
 have HW:=Hd hw
 have HJ:=Hd hj
 have HO:=Hd hok
 have HN:=Hd hn
 have HD:=Hd hd2
 clear hk hh hx hw hj hok hn hd2
 go_enter Tryz.func236,Tryz.ntmps236
 go_wp2_with fail
 go_loopw [11] (fun i wr=>∃ j : Nat,j ≤ k ∧ i = .int .i64 j ∧ Hid (Below w0.heap.size w0 wr ∧ bO wr b (left - aD l + aD (l.drop j)) ∧ But b w wr)) (fun i _=>k - (intOf i).toNat)
 case atStart=>exact ⟨0,Nat.zero_le _,rfl,HW.out,by have:=HJ.out;simpa using this,But.refl _ _⟩
 case round =>
  obtain ⟨j,hj,rfl,hs⟩:=hrel
  by_cases hlt : j < k
  ·obtain ⟨T,hT⟩:=aF (l:=l) (j:=j) (by rw [← L1.out];exact hlt)
   obtain ⟨bb,off,rfl,hc⟩:=HX.out.get (aJ hT)
   obtain ⟨x0,x1,x2,hx⟩:=hc j _ hT
   have hK:=aA hs.out.1
   have c0:=hK _ _ hx.c0;have c1:=hK _ _ hx.c1;have c2:=hK _ _ hx.c2
   have X : Hid (iS w0 T (.agg #[.bool T.v,str T.name,.slice x0 x1 x2])):=⟨_,_,_,rfl,hx.at_⟩
   have HM:=Hd (List.mem_of_getElem? hT)
   have N1:=Hd (tmsNodes_drop hT)
   have N2:=Hd (tmsNodes_drop_le l j)
   have D1:=Hd (tQ T HM.out)
   have hal : Hid (∀ o,Below w0.heap.size w0 (wr.alloc o) ∧ bO (wr.alloc o) b (left - aD l + aD (l.drop j)) ∧ But b w (wr.alloc o)):=fun o=>by
    have hb1 : Below wr.heap.size wr (wr.alloc o):=bnew
    exact ⟨hs.out.1.trans (hb1.mono hs.out.1.size),hs.out.2.1.below hb1,hs.out.2.2.trans (But.of_below hb1)⟩
   clear hc hx hT hK
   go_wp2_with (go_at_call 284;refine (H.out T HM.out w0 _ b _ depth _ X.out (hal.out _).1 hb (hal.out _).2.1 (tmsOk_mem HO.out T HM.out) (by have:=N1.out;have:=HN.out;omega) (by have:=N2.out;omega) hd1 (by have:=D1.out;have:=HD.out;omega)).mono ?_;rintro e w3 ⟨rfl,r1,r2,r3⟩)
   go_roundw
   case rel=>exact ⟨j + 1,by omega,by go_num,r1,by have e:=N1.out;rw [e] at r2;rw [show left - (aD l : Int) + (aD (l.drop (j + 1)) : Int) = left - aD l + ((T.nodes + aD (l.drop (j + 1)) : Nat) : Int) - T.nodes by omega];exact r2,(hal.out _).2.2.trans r3⟩
   case measure=>simp [intOf];omega
  ·go_wp2_with fail
   go_ret
   have e : l.drop j = []:=List.drop_of_length_le (by rw [← L1.out];omega)
   have h2:=hs.out.2.1
   rw [e] at h2
   exact ⟨rfl,hs.out.1,by simpa [aD] using h2,hs.out.2.2⟩
mutual
theorem GM : ∀ t : Tm,TmJ t
 | .mk v n ts=>term_step v n ts (zB ts (yV ts))
theorem yV : ∀ l : List Tm,∀ t ∈ l,TmJ t
 | [],_,h=>by cases h
 | x :: xs,t,h=>by
  rcases List.mem_cons.1 h with e | e
  ·rw [e];exact GM x
  ·exact yV xs t e
end
theorem uN (l : List Tm) : TmsJ l:=zB l (yV l)
open Go Go.RowKit Ly
def jO (op : Int) : Int:=if op = 1 then 1 else if op = 8 ∨ op = 9 then 2 else 0
def mD (op : Int) : Int:=if op = 1 then 4 else 0
def dV (w : World) : Prop:=∀ op : Int,1 ≤ op → op ≤ 14 →
 w.cell? ⟨0,op.toNat * 5,none⟩ = some (.bool true) ∧ w.cell? ⟨0,op.toNat * 5 + 1,none⟩ = some (.bool true) ∧ w.cell? ⟨0,op.toNat * 5 + 2,none⟩ = some (.int .u8 (jO op)) ∧
 w.cell? ⟨0,op.toNat * 5 + 3,none⟩ = some (.int .i64 (mD op)) ∧ w.cell? ⟨0,op.toNat * 5 + 4,none⟩ = some (.int .i64 (arity op))
theorem dV.keep {w w' : World} (h : dV w) (k : aR w w') : dV w':=fun op h1 h2=>by
 obtain ⟨a,b,c,d,e⟩:=h op h1 h2
 exact ⟨k _ _ a,k _ _ b,k _ _ c,k _ _ d,k _ _ e⟩
def kD (k : Int) (s : Bs) : Prop:=(k = 1 ∧ bN s = true) ∨ (k = 2 ∧ aZ s = true) ∨ (k = 0 ∧ s = [])
set_option maxHeartbeats 400000
theorem kX (k : Int) (s : Bs) (w : World) (h : kD k s) : Calls Tryz.prog 234 #[.int .u8 k,str s] w (Rt (.bool true) w):=by
 rcases h with ⟨rfl,h⟩ | ⟨rfl,h⟩ | ⟨rfl,rfl⟩
 ·have HV:=Hd h
  have hlen : Hid (s.length ≤ 9223372036854775807):=by have:=fM h;show s.length ≤ _;omega
  clear h
  go_enter Tryz.func234,Tryz.ntmps234
  go_wp2_with (go_at_call 198;refine (lT s _ hlen.out).mono ?_;rintro e w2 ⟨he,hb2⟩;rw [show bN s = true from HV.out] at he;subst he)
  go_ret
  exact ⟨rfl,hb2⟩
 ·have HV:=Hd h
  have hlen : Hid (s.length ≤ 9223372036854775807):=by have:=fM h;show s.length ≤ _;omega
  clear h
  go_enter Tryz.func234,Tryz.ntmps234
  go_wp2_with (go_at_call 266;refine (eS s _ hlen.out).mono ?_;rintro e w2 ⟨he,hb2⟩;rw [show aZ s = true from HV.out] at he;subst he)
  go_ret
  exact ⟨rfl,hb2⟩
 ·go_enter Tryz.func234,Tryz.ntmps234
  go_wp2_with fail
  go_ret
  exact ⟨rfl,Below.refl _ _⟩
def FmJ (f : Fm) : Prop:=∀ (w0 w : World) (b : Nat) (left depth : Int) (x : Value),dV w0 → bV w0 f x → Below w0.heap.size w0 w → w0.heap.size ≤ b → bO w b left → f.ok = true →
 (f.nodes : Int) ≤ left → left ≤ 400 → 1 ≤ depth → depth + f.depth ≤ 41 → Calls Tryz.prog 160 #[.pointer (some ⟨b,0,none⟩),x,.int .i64 depth] w (GX w0 b (left - f.nodes) w)
theorem tV {l : List Fm} (h : dR l = true) : ∀ t ∈ l,t.ok = true:=by
 induction l with
 | nil=>intro t ht;cases ht
 | cons x xs ih =>
  simp only [dR,Bool.and_eq_true] at h
  intro t ht
  rcases List.mem_cons.1 ht with e | e
  ·rw [e];exact h.1
  ·exact ih h.2 t e
theorem nH {l : List Fm} : ∀ t ∈ l,t.depth ≤ dW l:=by
 induction l with
 | nil=>intro t ht;cases ht
 | cons x xs ih =>
  intro t ht
  simp only [dW]
  rcases List.mem_cons.1 ht with e | e
  ·rw [e];omega
  ·have:=ih t e;omega
theorem fmsNodes_drop {l : List Fm} {j : Nat} {T : Fm} (h : l[j]? = some T) : aK (l.drop j) = T.nodes + aK (l.drop (j + 1)):=by
 obtain ⟨h1,rfl⟩:=List.getElem?_eq_some_iff.1 h
 rw [List.drop_eq_getElem_cons h1,aK]
theorem fmsNodes_drop_le (l : List Fm) (j : Nat) : aK (l.drop j) ≤ aK l:=by
 induction l generalizing j with
 | nil=>simp
 | cons x xs ih =>
  cases j with
  | zero=>simp
  | succ j=>simp only [List.drop_succ_cons,aK];have:=ih j;omega
theorem kE {op : Int} {n : Bs} {ts : List Tm} {fs : List Fm} (h : (Fm.mk op n ts fs).ok = true) : kD (jO op) n ∧ (ts.length : Int) ≤ mD op ∧ fs.length = arity op ∧ 1 ≤ op ∧ op ≤ 14 ∧ cJ ts = true ∧ dR fs = true:=by
 have ho:=Fm.ok_op h
 simp only [Fm.ok,Bool.and_eq_true,decide_eq_true_eq] at h
 obtain ⟨⟨⟨⟨l1,_⟩,h2⟩,h3⟩,h4⟩:=h
 refine ⟨?_, ?_,l1,by omega,by omega,h3,h4⟩
 ·unfold kD jO
  by_cases o1 : op = 1
  ·simp_all
  ·by_cases o8 : op = 8 ∨ op = 9
   ·simp_all
   ·simp_all
 ·unfold mD
  by_cases o1 : op = 1
  ·simp_all;omega
  ·simp_all
theorem iI {w0 w w2 : World} {b : Nat} {left : Int} (n : Int) {o o' : Obj} (hw : Below w0.heap.size w0 w) (hb : w0.heap.size ≤ b) (hj : bO w b left)
  (h : Below (((w.setCell ⟨b,1,none⟩ (.int .i64 n)).alloc o).alloc o').heap.size (((w.setCell ⟨b,1,none⟩ (.int .i64 n)).alloc o).alloc o') w2) : Below w0.heap.size w0 w2 ∧ bO w2 b n ∧ But b w w2 :=
 kV n hw hb hj (bB h)
set_option maxHeartbeats 1600000 in
theorem form_step (op : Int) (n : Bs) (ts : List Tm) (fs : List Fm) (hh : ∀ f ∈ fs,FmJ f) : FmJ (.mk op n ts fs):=by
 intro w0 w b left depth x hrows hx hw hb hj hok hn hl hd1 hd2
 obtain ⟨a,k,c,a',m,d,rfl,hx,hx2⟩:=hx
 simp only [Fm.op,Fm.name,Fm.args,Fm.sub] at *
 have hk:=hx.len
 have hm:=hx2.len
 have hlk : k ≤ 9223372036854775807:=by have:=le63 hk.2.2;omega
 have hlm : m ≤ 9223372036854775807:=by have:=le63 hm.2.2;omega
 obtain ⟨f1,f2,f3,o1,o2,f4,f5⟩:=kE hok
 have hkA : (k : Int) ≤ mD op:=by rw [hk.1];exact f2
 have hn' : (1 : Int) ≤ left:=by simp only [Fm.nodes] at hn;omega
 have hd : depth ≤ 40:=by simp only [Fm.depth] at hd2;omega
 have hbl : b < w.heap.size:=hj.lt
 have hcells : ∀ w',aR w0 w' → w'.cell? ⟨0,op.toNat * 5,none⟩ = some (.bool true) ∧ w'.cell? ⟨0,op.toNat * 5 + 1,none⟩ = some (.bool true) ∧ w'.cell? ⟨0,op.toNat * 5 + 2,none⟩ = some (.int .u8 (jO op)) ∧
   w'.cell? ⟨0,op.toNat * 5 + 3,none⟩ = some (.int .i64 (mD op)) ∧ w'.cell? ⟨0,op.toNat * 5 + 4,none⟩ = some (.int .i64 m):=fun w' kk=>by
  have:=hrows.keep kk op o1 o2
  rw [← f3,← hm.1] at this;exact this
 have hW1 : Below w0.heap.size w0 ((w.setCell ⟨b,1,none⟩ (.int .i64 (left - 1))).alloc (.cells #[.int .u8 op,str n,.slice a k c,.slice a' m d] 25)) :=
  ((But.set b w 1 none _).below hw hb).alloc (by have:=hw.size;simpa [World.setCell] using this) _
 obtain ⟨g0,g1,g2,g3,g4⟩:=hcells _ (aA hW1)
 have F1:=Hd f1
 have HJ:=Hd hj
 have HW:=Hd hw
 have HX:=Hd hx
 have HX2:=Hd hx2
 have HR:=Hd hrows
 have L2:=Hd hm.1
 have H:=Hd hh
 have HN : Hid ((aD ts : Int) ≤ left - 1 ∧ depth + 1 + bG ts ≤ 41 ∧ cJ ts = true ∧ left - (Fm.mk op n ts fs).nodes = left - 1 - aD ts - aK fs ∧ (aK fs : Int) ≤ left - 1 - aD ts ∧ depth + 1 + dW fs ≤ 41 ∧ dR fs = true):=by
  simp only [Fm.nodes,Fm.depth] at *
  refine ⟨?_, ?_,f4, ?_, ?_, ?_,f5⟩ <;> omega
 generalize jO op = srt at *
 generalize mD op = mx at *
 clear hW1 hx hx2 hk hm hok hn hj hw hd2 hrows f1 f2 f3 f4 f5 hcells hh
 go_enter Tryz.func160,Tryz.ntmps160
 go_wp2_with (first
  | (go_at_call 233;refine (eF b left depth _ (HJ.out.below (by exact bnew)) hn' hl hd).mono ?_;rintro e w1 ⟨rfl,rfl⟩)
  | (go_at_call 234;refine (kX _ n _ F1.out).mono ?_;rintro e w2 ⟨rfl,hb2⟩;obtain ⟨hc2,hf2⟩:=eP hb2;have q:=Hd (iI (left - 1) HW.out hb HJ.out hb2);clear hf2)
  | (go_at_call 236;refine (uN ts w0 _ b (left - 1) (depth + 1) a k c HX.out q.out.1 hb q.out.2.1 HN.out.2.2.1 HN.out.1 (by omega) (by omega) HN.out.2.1).mono ?_;rintro e w3 ⟨rfl,r1,r2,r3⟩;have e3 : w3.cell? ⟨w.heap.size,3,none⟩ = some (.slice a' m d):=(by rw [r3.cell (by have:=hb2.size;simp at this;omega) (by omega),hc2 _ _ (by simp;omega)];simp [go_sem]);have R:=Hd (And.intro r1 (And.intro r2 (q.out.2.2.trans r3)));clear hc2 q r1 r2 r3))
 go_loopw [79] (fun i wr=>∃ j : Nat,j ≤ m ∧ i = .int .i64 j ∧ Hid (Below w0.heap.size w0 wr ∧ bO wr b (left - 1 - aD ts - aK fs + aK (fs.drop j)) ∧ But b w wr)) (fun i _=>m - (intOf i).toNat)
 case atStart=>exact ⟨0,Nat.zero_le _,rfl,R.out.1,by have:=R.out.2.1;simpa using this,R.out.2.2⟩
 case round =>
  clear g0 g1 g2 g3 g4 e3 hb2
  obtain ⟨j,hj,rfl,hs⟩:=hrel
  by_cases hlt : j < m
  ·obtain ⟨T,hT⟩:=aF (l:=fs) (j:=j) (by rw [← L2.out];exact hlt)
   obtain ⟨bb,off,rfl,hc⟩:=HX2.out.get (aJ hT)
   obtain ⟨x0,x1,x2,y0,y1,y2,hx⟩:=hc j _ hT
   have hK:=aA hs.out.1
   have c0:=hK _ _ hx.c0;have c1:=hK _ _ hx.c1;have c2:=hK _ _ hx.c2;have c3:=hK _ _ hx.c3
   have X : Hid (bV w0 T (.agg #[.int .u8 T.op,str T.name,.slice x0 x1 x2,.slice y0 y1 y2])):=⟨_,_,_,_,_,_,rfl,hx.at_,hx.at'⟩
   have HM:=Hd (List.mem_of_getElem? hT)
   have N1:=Hd (fmsNodes_drop hT)
   have N2:=Hd (fmsNodes_drop_le fs j)
   have D1:=Hd (nH T HM.out)
   have hal : Hid (∀ o,Below w0.heap.size w0 (wr.alloc o) ∧ bO (wr.alloc o) b (left - 1 - aD ts - aK fs + aK (fs.drop j)) ∧ But b w (wr.alloc o)):=fun o=>by
    have hb1 : Below wr.heap.size wr (wr.alloc o):=bnew
    exact ⟨hs.out.1.trans (hb1.mono hs.out.1.size),hs.out.2.1.below hb1,hs.out.2.2.trans (But.of_below hb1)⟩
   clear hc hx hT hK
   go_wp2_with (go_at_call 160;refine (H.out T HM.out w0 _ b _ (depth + 1) _ HR.out X.out (hal.out _).1 hb (hal.out _).2.1 (tV HN.out.2.2.2.2.2.2 T HM.out) (by have:=N1.out;have:=HN.out;omega) (by have:=N2.out;have:=HN.out;omega) (by omega) (by have:=D1.out;have:=HN.out.2.2.2.2.2.1;omega)).mono ?_;rintro e w3 ⟨rfl,r1,r2,r3⟩)
   go_roundw
   case rel=>exact ⟨j + 1,by omega,by go_num,r1,by have e:=N1.out;rw [e] at r2;rw [show left - 1 - (aD ts : Int) - (aK fs : Int) + (aK (fs.drop (j + 1)) : Int) = left - 1 - aD ts - aK fs + ((T.nodes + aK (fs.drop (j + 1)) : Nat) : Int) - T.nodes by omega];exact r2,(hal.out _).2.2.trans r3⟩
   case measure=>simp [intOf];omega
  ·go_wp2_with fail
   go_ret
   have e : fs.drop j = []:=List.drop_of_length_le (by rw [← L2.out];omega)
   have h2:=hs.out.2.1
   rw [e] at h2
   exact ⟨rfl,hs.out.1,by rw [HN.out.2.2.2.1];simpa [aK] using h2,hs.out.2.2⟩
mutual
theorem sM : ∀ t : Fm,FmJ t
 | .mk o n ts fs=>form_step o n ts fs (EZ fs)
theorem EZ : ∀ l : List Fm,∀ t ∈ l,FmJ t
 | [],_,h=>by cases h
 | x :: xs,t,h=>by
  rcases List.mem_cons.1 h with e | e
  ·rw [e];exact sM x
  ·exact EZ xs t e
end
theorem gU (f : Fm) (x : Value) (w : World) (hr : dV w) (hx : bV w f x) (h : f.right = true) : Calls Tryz.prog 85 #[x] w (Rt (.bool true) w):=by
 obtain ⟨a,k,c,a',m,d,rfl,h1,h2⟩:=hx
 have X : Hid (bV w f (.agg #[.int .u8 f.op,str f.name,.slice a k c,.slice a' m d])):=⟨_,_,_,_,_,_,rfl,h1,h2⟩
 have HR:=Hd hr
 simp only [Fm.right,Bool.and_eq_true,decide_eq_true_eq] at h
 have HO:=Hd h
 clear h h1 h2 hr
 go_enter Tryz.func85,Tryz.ntmps85
 go_wp2_with (go_at_call 160;refine (sM f w _ (w.heap.size + 1) 400 1 _ HR.out X.out (by exact bnew.alloc (by simp) _) (by omega) ⟨by simp [go_sem],by simp [go_sem],by simp [go_sem],by simp [go_sem]⟩ HO.out.1.1 (by have:=HO.out.1.2;omega) (by omega) (by omega) (by have:=HO.out.2;omega)).mono ?_;rintro e w1 ⟨rfl,r1,_,_⟩)
 go_ret
 exact ⟨rfl,r1⟩
end Go.Proofs.YtcandidgaegghaaGreatDoor
