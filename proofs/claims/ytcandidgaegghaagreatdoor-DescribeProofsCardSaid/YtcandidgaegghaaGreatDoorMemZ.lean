/- How formulas, terms, proofs and lists lie in memory: a cell's content to the bottom, and that it stays where nothing old is written. -/
import Derived.Test.YtcandidgaegghaaGreatDoorCpZ
import Derived.WalkKit
import Derived.Test.YtcandidgaegghaaGreatDoorPlZ
set_option maxRecDepth 10000
set_option linter.unusedSimpArgs false
set_option linter.unusedVariables false
namespace Ly
open Go Go.RowKit
inductive D where
 | val (v : Value)
 | sl (size n : Nat) (cells : List D)
mutual
def At (w : World) : D → Value → Prop
 | .val v,u=>u = v
 | .sl size n ds,u=>∃ a cap,u = .slice a n cap ∧ n ≤ cap ∧ cap ≤ maxLen ∧ ds.length = n * size ∧ (n = 0 ∨ ∃ b off,a = some ⟨b,off,none⟩ ∧ kJ w b off ds)
def kJ (w : World) (b : Nat) : Nat → List D → Prop
 | _,[]=>True
 | off,d :: ds=>(∃ u,w.cell? ⟨b,off,none⟩ = some u ∧ At w d u) ∧ kJ w b (off + 1) ds
end
def aR (w w' : World) : Prop:=∀ a v,w.cell? a = some v → w'.cell? a = some v
theorem aR.trans {a b c : World} (h : aR a b) (h' : aR b c) : aR a c:=fun p v hp=>h' p v (h p v hp)
theorem aA {w w' : World} (h : Below w.heap.size w w') : aR w w':=fun a v hv=>by
 rw [h.cell (World.block_lt_of_cell? w a hv)];exact hv
mutual
theorem At.keep {w w' : World} (hk : aR w w') : ∀ (d : D) (u : Value),At w d u → At w' d u
 | .val v,u,h=>h
 | .sl size n ds,u,h=>by
  obtain ⟨a,cap,h1,h2,h3,h4,h5⟩:=h
  refine ⟨a,cap,h1,h2,h3,h4, ?_⟩
  rcases h5 with h5 | ⟨b,off,e,h5⟩
  ·exact .inl h5
  ·exact .inr ⟨b,off,e,kJ.keep hk b off ds h5⟩
theorem kJ.keep {w w' : World} (hk : aR w w') (b : Nat) : ∀ (off : Nat) (ds : List D),kJ w b off ds → kJ w' b off ds
 | _,[],_=>trivial
 | off,d :: ds,h=>by
  obtain ⟨⟨u,h1,h2⟩,h3⟩:=h
  exact ⟨⟨u,hk _ _ h1,At.keep hk d u h2⟩,kJ.keep hk b (off + 1) ds h3⟩
end
theorem kJ.get {w : World} {b : Nat} : ∀ {off : Nat} {ds : List D},kJ w b off ds → ∀ (j : Nat) (d : D),ds[j]? = some d → ∃ u,w.cell? ⟨b,off + j,none⟩ = some u ∧ At w d u
 | _,[],_,j,d,h=>by simp at h
 | off,x :: ds,h,0,d,e=>by
  obtain ⟨⟨u,h1,h2⟩,_⟩:=h
  simp at e;subst e
  exact ⟨u,h1,h2⟩
 | off,x :: ds,h,j + 1,d,e=>by
  have:=kJ.get h.2 j d (by simpa using e)
  rwa [show off + 1 + j = off + (j + 1) by omega] at this
theorem kJ.mk {w : World} {b : Nat} : ∀ {off : Nat} {ds : List D},(∀ (j : Nat) (d : D),ds[j]? = some d → ∃ u,w.cell? ⟨b,off + j,none⟩ = some u ∧ At w d u) → kJ w b off ds
 | _,[],_=>trivial
 | off,x :: ds,h=>⟨h 0 x (by simp),kJ.mk fun j d hd=>by
   have:=h (j + 1) d (by simpa using hd)
   rwa [show off + (j + 1) = off + 1 + j by omega] at this⟩
theorem At.sl_inv {w : World} {size n : Nat} {ds : List D} {u : Value} (h : At w (.sl size n ds) u) :
  ∃ a cap,u = .slice a n cap ∧ n ≤ cap ∧ cap ≤ maxLen ∧ ds.length = n * size ∧ (n = 0 ∨ ∃ b off,a = some ⟨b,off,none⟩ ∧ ∀ (j : Nat) (d : D),ds[j]? = some d → ∃ u,w.cell? ⟨b,off + j,none⟩ = some u ∧ At w d u):=by
 obtain ⟨a,cap,h1,h2,h3,h4,h5⟩:=h
 refine ⟨a,cap,h1,h2,h3,h4, ?_⟩
 rcases h5 with h5 | ⟨b,off,e,h5⟩
 ·exact .inl h5
 ·exact .inr ⟨b,off,e,fun j d hd=>h5.get j d hd⟩
theorem At.sl_mk {w : World} {size n : Nat} {ds : List D} {b off cap : Nat} (hl : ds.length = n * size) (hn : n ≤ cap) (hc : cap ≤ maxLen)
  (h : ∀ (j : Nat) (d : D),ds[j]? = some d → ∃ u,w.cell? ⟨b,off + j,none⟩ = some u ∧ At w d u) : At w (.sl size n ds) (.slice (some ⟨b,off,none⟩) n cap) :=
 ⟨_,_,rfl,hn,hc,hl,.inr ⟨b,off,rfl,kJ.mk h⟩⟩
theorem At.sl_nil {w : World} {size : Nat} {a : Option Addr} {cap : Nat} (hc : cap ≤ maxLen) : At w (.sl size 0 []) (.slice a 0 cap) :=
 ⟨a,cap,rfl,Nat.zero_le _,hc,by simp,.inl rfl⟩
/- Strings, lists of strings, of numbers. -/
abbrev str (s : Bs) : Value:=.string ⟨s.toArray⟩
def strD (s : Bs) : D:=.val (str s)
def intD (n : Int) : D:=.val (.int .i64 n)
def aU (w : World) (l : List Bs) (u : Value) : Prop:=At w (.sl 1 l.length (l.map strD)) u
def dZ (w : World) (l : List Int) (u : Value) : Prop:=At w (.sl 1 l.length (l.map intD)) u
def eY (l : List Int) : D:=.sl 1 l.length (l.map intD)
def eB (w : World) (l : List (List Int)) (u : Value) : Prop:=At w (.sl 1 l.length (l.map eY)) u
/- Terms, formulas, proofs. -/
mutual
def Tm.ds : Tm → List D
 | .mk v n as=>[.val (.bool v),.val (str n),.sl 3 as.length (cC as)]
def cC : List Tm → List D
 | []=>[]
 | t :: ts=>t.ds ++ cC ts
end
mutual
def Fm.ds : Fm → List D
 | .mk op n as sub=>[.val (.int .u8 op),.val (str n),.sl 3 as.length (cC as),.sl 4 sub.length (cH sub)]
def cH : List Fm → List D
 | []=>[]
 | f :: fs=>f.ds ++ cH fs
end
mutual
def Pf.ds : Pf → List D
 | .mk r f l sub ms=>.val (str r) :: (f.ds ++ [.val (.int .i64 l),.sl 8 sub.length (cX sub),.sl 1 ms.length (ms.map eY)])
def cX : List Pf → List D
 | []=>[]
 | p :: ps=>p.ds ++ cX ps
end
def bI (w : World) (l : List Tm) (u : Value) : Prop:=At w (.sl 3 l.length (cC l)) u
def cD (w : World) (l : List Fm) (u : Value) : Prop:=At w (.sl 4 l.length (cH l)) u
def gD (w : World) (l : List Pf) (u : Value) : Prop:=At w (.sl 8 l.length (cX l)) u
def iS (w : World) (t : Tm) (u : Value) : Prop:=∃ a n c,u = .agg #[.bool t.v,str t.name,.slice a n c] ∧ bI w t.args (.slice a n c)
def bV (w : World) (f : Fm) (u : Value) : Prop :=
 ∃ a n c b m d,u = .agg #[.int .u8 f.op,str f.name,.slice a n c,.slice b m d] ∧ bI w f.args (.slice a n c) ∧ cD w f.sub (.slice b m d)
theorem bI.keep {w w' : World} {l : List Tm} {u : Value} (h : bI w l u) (k : aR w w') : bI w' l u:=At.keep k _ _ h
theorem cD.keep {w w' : World} {l : List Fm} {u : Value} (h : cD w l u) (k : aR w w') : cD w' l u:=At.keep k _ _ h
theorem gD.keep {w w' : World} {l : List Pf} {u : Value} (h : gD w l u) (k : aR w w') : gD w' l u:=At.keep k _ _ h
theorem aU.keep {w w' : World} {l : List Bs} {u : Value} (h : aU w l u) (k : aR w w') : aU w' l u:=At.keep k _ _ h
theorem dZ.keep {w w' : World} {l : List Int} {u : Value} (h : dZ w l u) (k : aR w w') : dZ w' l u:=At.keep k _ _ h
theorem eB.keep {w w' : World} {l : List (List Int)} {u : Value} (h : eB w l u) (k : aR w w') : eB w' l u:=At.keep k _ _ h
theorem bV.keep {w w' : World} {f : Fm} {u : Value} (h : bV w f u) (k : aR w w') : bV w' f u:=by
 obtain ⟨a,n,c,b,m,d,e,h,h'⟩:=h;exact ⟨a,n,c,b,m,d,e,h.keep k,h'.keep k⟩
theorem Tm.ds_length (t : Tm) : t.ds.length = 3:=by cases t;rfl
theorem Fm.ds_length (f : Fm) : f.ds.length = 4:=by cases f;rfl
theorem Pf.ds_length (p : Pf) : p.ds.length = 8:=by cases p;simp [Pf.ds,Fm.ds_length]
theorem tH {α : Type} (ds : α → List D) (all : List α → List D) (k : Nat) (hk : ∀ x,(ds x).length = k) (h0 : all [] = []) (h1 : ∀ x xs,all (x :: xs) = ds x ++ all xs) :
  ∀ (l : List α) (i : Nat) (x : α),l[i]? = some x → ∀ j,j < k → (all l)[i * k + j]? = (ds x)[j]?
 | [],i,x,h,_,_=>by simp at h
 | y :: ys,0,x,h,j,hj=>by
  simp at h;subst h
  rw [h1,Nat.zero_mul,Nat.zero_add,List.getElem?_append_left (by rw [hk];exact hj)]
 | y :: ys,i + 1,x,h,j,hj=>by
  rw [h1,List.getElem?_append_right (by rw [hk,Nat.succ_mul];omega),hk,show (i + 1) * k + j - k = i * k + j by rw [Nat.succ_mul];omega]
  exact tH ds all k hk h0 h1 ys i x (by simpa using h) j hj
theorem iM (l : List Tm) (i : Nat) (t : Tm) (h : l[i]? = some t) (j : Nat) (hj : j < 3) : (cC l)[i * 3 + j]? = t.ds[j]? :=
 tH Tm.ds cC 3 Tm.ds_length (by simp [cC]) (by intros;simp [cC]) l i t h j hj
theorem gW (l : List Fm) (i : Nat) (t : Fm) (h : l[i]? = some t) (j : Nat) (hj : j < 4) : (cH l)[i * 4 + j]? = t.ds[j]? :=
 tH Fm.ds cH 4 Fm.ds_length (by simp [cH]) (by intros;simp [cH]) l i t h j hj
theorem dG (l : List Pf) (i : Nat) (t : Pf) (h : l[i]? = some t) (j : Nat) (hj : j < 8) : (cX l)[i * 8 + j]? = t.ds[j]? :=
 tH Pf.ds cX 8 Pf.ds_length (by simp [cX]) (by intros;simp [cX]) l i t h j hj
structure TmCells (w : World) (b o : Nat) (t : Tm) (a : Option Addr) (n c : Nat) : Prop where
 c0 : w.cell? ⟨b,o,none⟩ = some (.bool t.v)
 c1 : w.cell? ⟨b,o + 1,none⟩ = some (str t.name)
 c2 : w.cell? ⟨b,o + 2,none⟩ = some (.slice a n c)
 at_ : bI w t.args (.slice a n c)
structure wA (w : World) (b o : Nat) (f : Fm) (a : Option Addr) (n c : Nat) (a' : Option Addr) (m d : Nat) : Prop where
 c0 : w.cell? ⟨b,o,none⟩ = some (.int .u8 f.op)
 c1 : w.cell? ⟨b,o + 1,none⟩ = some (str f.name)
 c2 : w.cell? ⟨b,o + 2,none⟩ = some (.slice a n c)
 c3 : w.cell? ⟨b,o + 3,none⟩ = some (.slice a' m d)
 at_ : bI w f.args (.slice a n c)
 at' : cD w f.sub (.slice a' m d)
theorem bI.len {w : World} {l : List Tm} {a : Option Addr} {n c : Nat} (h : bI w l (.slice a n c)) : n = l.length ∧ n ≤ c ∧ c ≤ maxLen:=by
 obtain ⟨a',cap,e,h1,h2,_⟩:=h
 simp only [Value.slice.injEq] at e
 obtain ⟨_,rfl,rfl⟩:=e
 exact ⟨rfl,h1,h2⟩
theorem cD.len {w : World} {l : List Fm} {a : Option Addr} {n c : Nat} (h : cD w l (.slice a n c)) : n = l.length ∧ n ≤ c ∧ c ≤ maxLen:=by
 obtain ⟨a',cap,e,h1,h2,_⟩:=h
 simp only [Value.slice.injEq] at e
 obtain ⟨_,rfl,rfl⟩:=e
 exact ⟨rfl,h1,h2⟩
theorem bI.slice {w : World} {l : List Tm} {u : Value} (h : bI w l u) : ∃ a n c,u = .slice a n c:=by
 obtain ⟨a,c,e,_⟩:=h;exact ⟨a,_,c,e⟩
theorem cD.slice {w : World} {l : List Fm} {u : Value} (h : cD w l u) : ∃ a n c,u = .slice a n c:=by
 obtain ⟨a,c,e,_⟩:=h;exact ⟨a,_,c,e⟩
theorem bI.get {w : World} {l : List Tm} {a : Option Addr} {n c : Nat} (h : bI w l (.slice a n c)) (hn : l ≠ []) :
  ∃ b off,a = some ⟨b,off,none⟩ ∧ ∀ (i : Nat) (t : Tm),l[i]? = some t → ∃ x k e,TmCells w b (off + i * 3) t x k e:=by
 obtain ⟨a',cap,e,_,_,_,h5⟩:=h.sl_inv
 simp only [Value.slice.injEq] at e
 obtain ⟨rfl,rfl,rfl⟩:=e
 rcases h5 with h5 | ⟨b,off,rfl,h5⟩
 ·exact absurd (List.eq_nil_of_length_eq_zero h5) hn
 ·refine ⟨b,off,rfl,fun i t ht=>?_⟩
  obtain ⟨v,nm,as⟩:=t
  obtain ⟨u0,k0,p0⟩:=h5 (i * 3) (.val (.bool v)) (iM l i _ ht 0 (by omega))
  obtain ⟨u1,k1,p1⟩:=h5 (i * 3 + 1) (.val (str nm)) (iM l i _ ht 1 (by omega))
  obtain ⟨u2,k2,p2⟩:=h5 (i * 3 + 2) (.sl 3 as.length (cC as)) (iM l i _ ht 2 (by omega))
  obtain ⟨x,k,e,rfl⟩:=bI.slice (w:=w) (l:=as) p2
  have p0' : u0 = _:=p0
  have p1' : u1 = _:=p1
  subst p0' p1'
  exact ⟨x,k,e,k0,by rw [Nat.add_assoc];exact k1,by rw [Nat.add_assoc];exact k2,p2⟩
theorem cD.get {w : World} {l : List Fm} {a : Option Addr} {n c : Nat} (h : cD w l (.slice a n c)) (hn : l ≠ []) :
  ∃ b off,a = some ⟨b,off,none⟩ ∧ ∀ (i : Nat) (f : Fm),l[i]? = some f → ∃ x k e y m d,wA w b (off + i * 4) f x k e y m d:=by
 obtain ⟨a',cap,e,_,_,_,h5⟩:=h.sl_inv
 simp only [Value.slice.injEq] at e
 obtain ⟨rfl,rfl,rfl⟩:=e
 rcases h5 with h5 | ⟨b,off,rfl,h5⟩
 ·exact absurd (List.eq_nil_of_length_eq_zero h5) hn
 ·refine ⟨b,off,rfl,fun i t ht=>?_⟩
  obtain ⟨op,nm,as,sub⟩:=t
  obtain ⟨u0,k0,p0⟩:=h5 (i * 4) (.val (.int .u8 op)) (gW l i _ ht 0 (by omega))
  obtain ⟨u1,k1,p1⟩:=h5 (i * 4 + 1) (.val (str nm)) (gW l i _ ht 1 (by omega))
  obtain ⟨u2,k2,p2⟩:=h5 (i * 4 + 2) (.sl 3 as.length (cC as)) (gW l i _ ht 2 (by omega))
  obtain ⟨u3,k3,p3⟩:=h5 (i * 4 + 3) (.sl 4 sub.length (cH sub)) (gW l i _ ht 3 (by omega))
  obtain ⟨x,k,e,rfl⟩:=bI.slice (w:=w) (l:=as) p2
  obtain ⟨y,m,d,rfl⟩:=cD.slice (w:=w) (l:=sub) p3
  have p0' : u0 = _:=p0
  have p1' : u1 = _:=p1
  subst p0' p1'
  exact ⟨x,k,e,y,m,d,k0,by rw [Nat.add_assoc];exact k1,by rw [Nat.add_assoc];exact k2,by rw [Nat.add_assoc];exact k3,p2,p3⟩
structure PfCells (w : World) (b o : Nat) (p : Pf) (a : Option Addr) (n c : Nat) (a' : Option Addr) (m d : Nat) (s : Option Addr) (sn sc : Nat) (q : Option Addr) (qn qc : Nat) : Prop where
 c0 : w.cell? ⟨b,o,none⟩ = some (str p.rule)
 c1 : w.cell? ⟨b,o + 1,none⟩ = some (.int .u8 p.form.op)
 c2 : w.cell? ⟨b,o + 2,none⟩ = some (str p.form.name)
 c3 : w.cell? ⟨b,o + 3,none⟩ = some (.slice a n c)
 c4 : w.cell? ⟨b,o + 4,none⟩ = some (.slice a' m d)
 c5 : w.cell? ⟨b,o + 5,none⟩ = some (.int .i64 p.label)
 c6 : w.cell? ⟨b,o + 6,none⟩ = some (.slice s sn sc)
 c7 : w.cell? ⟨b,o + 7,none⟩ = some (.slice q qn qc)
 args : bI w p.form.args (.slice a n c)
 parts : cD w p.form.sub (.slice a' m d)
 sub : gD w p.sub (.slice s sn sc)
 marks : eB w p.marks (.slice q qn qc)
def cU (w : World) (p : Pf) (u : Value) : Prop :=
 ∃ a n c b m d s sn sc q qn qc,u = .agg #[str p.rule,.int .u8 p.form.op,str p.form.name,.slice a n c,.slice b m d,.int .i64 p.label,.slice s sn sc,.slice q qn qc] ∧
  bI w p.form.args (.slice a n c) ∧ cD w p.form.sub (.slice b m d) ∧ gD w p.sub (.slice s sn sc) ∧ eB w p.marks (.slice q qn qc)
theorem cU.keep {w w' : World} {f : Pf} {u : Value} (h : cU w f u) (k : aR w w') : cU w' f u:=by
 obtain ⟨a,n,c,b,m,d,s,sn,sc,q,qn,qc,e,h1,h2,h3,h4⟩:=h;exact ⟨a,n,c,b,m,d,s,sn,sc,q,qn,qc,e,h1.keep k,h2.keep k,h3.keep k,h4.keep k⟩
theorem gD.len {w : World} {l : List Pf} {a : Option Addr} {n c : Nat} (h : gD w l (.slice a n c)) : n = l.length ∧ n ≤ c ∧ c ≤ maxLen:=by
 obtain ⟨a',cap,e,h1,h2,_⟩:=h
 simp only [Value.slice.injEq] at e
 obtain ⟨_,rfl,rfl⟩:=e
 exact ⟨rfl,h1,h2⟩
theorem gD.slice {w : World} {l : List Pf} {u : Value} (h : gD w l u) : ∃ a n c,u = .slice a n c:=by
 obtain ⟨a,c,e,_⟩:=h;exact ⟨a,_,c,e⟩
theorem dZ.len {w : World} {l : List Int} {a : Option Addr} {n c : Nat} (h : dZ w l (.slice a n c)) : n = l.length ∧ n ≤ c ∧ c ≤ maxLen:=by
 obtain ⟨a',cap,e,h1,h2,_⟩:=h
 simp only [Value.slice.injEq] at e
 obtain ⟨_,rfl,rfl⟩:=e
 exact ⟨rfl,h1,h2⟩
theorem dZ.slice {w : World} {l : List Int} {u : Value} (h : dZ w l u) : ∃ a n c,u = .slice a n c:=by
 obtain ⟨a,c,e,_⟩:=h;exact ⟨a,_,c,e⟩
theorem aU.len {w : World} {l : List Bs} {a : Option Addr} {n c : Nat} (h : aU w l (.slice a n c)) : n = l.length ∧ n ≤ c ∧ c ≤ maxLen:=by
 obtain ⟨a',cap,e,h1,h2,_⟩:=h
 simp only [Value.slice.injEq] at e
 obtain ⟨_,rfl,rfl⟩:=e
 exact ⟨rfl,h1,h2⟩
theorem aU.slice {w : World} {l : List Bs} {u : Value} (h : aU w l u) : ∃ a n c,u = .slice a n c:=by
 obtain ⟨a,c,e,_⟩:=h;exact ⟨a,_,c,e⟩
theorem eB.len {w : World} {l : List (List Int)} {a : Option Addr} {n c : Nat} (h : eB w l (.slice a n c)) : n = l.length ∧ n ≤ c ∧ c ≤ maxLen:=by
 obtain ⟨a',cap,e,h1,h2,_⟩:=h
 simp only [Value.slice.injEq] at e
 obtain ⟨_,rfl,rfl⟩:=e
 exact ⟨rfl,h1,h2⟩
theorem eB.slice {w : World} {l : List (List Int)} {u : Value} (h : eB w l u) : ∃ a n c,u = .slice a n c:=by
 obtain ⟨a,c,e,_⟩:=h;exact ⟨a,_,c,e⟩
theorem dZ.get {w : World} {l : List Int} {a : Option Addr} {n c : Nat} (h : dZ w l (.slice a n c)) (hn : l ≠ []) :
  ∃ b off,a = some ⟨b,off,none⟩ ∧ ∀ (i : Nat) (x : Int),l[i]? = some x → w.cell? ⟨b,off + i,none⟩ = some (.int .i64 x):=by
 obtain ⟨a',cap,e,_,_,_,h5⟩:=h.sl_inv
 simp only [Value.slice.injEq] at e
 obtain ⟨rfl,rfl,rfl⟩:=e
 rcases h5 with h5 | ⟨b,off,rfl,h5⟩
 ·exact absurd (List.eq_nil_of_length_eq_zero h5) hn
 ·refine ⟨b,off,rfl,fun i x hx=>?_⟩
  obtain ⟨u,k,p⟩:=h5 i (intD x) (by rw [List.getElem?_map,hx];rfl)
  have p' : u = _:=p
  subst p';exact k
theorem aU.get {w : World} {l : List Bs} {a : Option Addr} {n c : Nat} (h : aU w l (.slice a n c)) (hn : l ≠ []) :
  ∃ b off,a = some ⟨b,off,none⟩ ∧ ∀ (i : Nat) (x : Bs),l[i]? = some x → w.cell? ⟨b,off + i,none⟩ = some (str x):=by
 obtain ⟨a',cap,e,_,_,_,h5⟩:=h.sl_inv
 simp only [Value.slice.injEq] at e
 obtain ⟨rfl,rfl,rfl⟩:=e
 rcases h5 with h5 | ⟨b,off,rfl,h5⟩
 ·exact absurd (List.eq_nil_of_length_eq_zero h5) hn
 ·refine ⟨b,off,rfl,fun i x hx=>?_⟩
  obtain ⟨u,k,p⟩:=h5 i (strD x) (by rw [List.getElem?_map,hx];rfl)
  have p' : u = _:=p
  subst p';exact k
theorem eB.get {w : World} {l : List (List Int)} {a : Option Addr} {n c : Nat} (h : eB w l (.slice a n c)) (hn : l ≠ []) :
  ∃ b off,a = some ⟨b,off,none⟩ ∧ ∀ (i : Nat) (x : List Int),l[i]? = some x → ∃ s sn sc,w.cell? ⟨b,off + i,none⟩ = some (.slice s sn sc) ∧ dZ w x (.slice s sn sc):=by
 obtain ⟨a',cap,e,_,_,_,h5⟩:=h.sl_inv
 simp only [Value.slice.injEq] at e
 obtain ⟨rfl,rfl,rfl⟩:=e
 rcases h5 with h5 | ⟨b,off,rfl,h5⟩
 ·exact absurd (List.eq_nil_of_length_eq_zero h5) hn
 ·refine ⟨b,off,rfl,fun i x hx=>?_⟩
  obtain ⟨u,k,p⟩:=h5 i (eY x) (by rw [List.getElem?_map,hx];rfl)
  obtain ⟨s,sn,sc,rfl⟩:=dZ.slice (w:=w) (l:=x) p
  exact ⟨s,sn,sc,k,p⟩
theorem gD.get {w : World} {l : List Pf} {a : Option Addr} {n c : Nat} (h : gD w l (.slice a n c)) (hn : l ≠ []) :
  ∃ b off,a = some ⟨b,off,none⟩ ∧ ∀ (i : Nat) (p : Pf),l[i]? = some p → ∃ a n c a' m d s sn sc q qn qc,PfCells w b (off + i * 8) p a n c a' m d s sn sc q qn qc:=by
 obtain ⟨a',cap,e,_,_,_,h5⟩:=h.sl_inv
 simp only [Value.slice.injEq] at e
 obtain ⟨rfl,rfl,rfl⟩:=e
 rcases h5 with h5 | ⟨b,off,rfl,h5⟩
 ·exact absurd (List.eq_nil_of_length_eq_zero h5) hn
 ·refine ⟨b,off,rfl,fun i t ht=>?_⟩
  obtain ⟨r,⟨op,nm,as,sub⟩,lb,ps,ms⟩:=t
  obtain ⟨u0,k0,p0⟩:=h5 (i * 8) (.val (str r)) (dG l i _ ht 0 (by omega))
  obtain ⟨u1,k1,p1⟩:=h5 (i * 8 + 1) (.val (.int .u8 op)) (dG l i _ ht 1 (by omega))
  obtain ⟨u2,k2,p2⟩:=h5 (i * 8 + 2) (.val (str nm)) (dG l i _ ht 2 (by omega))
  obtain ⟨u3,k3,p3⟩:=h5 (i * 8 + 3) (.sl 3 as.length (cC as)) (dG l i _ ht 3 (by omega))
  obtain ⟨u4,k4,p4⟩:=h5 (i * 8 + 4) (.sl 4 sub.length (cH sub)) (dG l i _ ht 4 (by omega))
  obtain ⟨u5,k5,p5⟩:=h5 (i * 8 + 5) (.val (.int .i64 lb)) (dG l i _ ht 5 (by omega))
  obtain ⟨u6,k6,p6⟩:=h5 (i * 8 + 6) (.sl 8 ps.length (cX ps)) (dG l i _ ht 6 (by omega))
  obtain ⟨u7,k7,p7⟩:=h5 (i * 8 + 7) (.sl 1 ms.length (ms.map eY)) (dG l i _ ht 7 (by omega))
  obtain ⟨x,k,e,rfl⟩:=bI.slice (w:=w) (l:=as) p3
  obtain ⟨y,m,d,rfl⟩:=cD.slice (w:=w) (l:=sub) p4
  obtain ⟨s,sn,sc,rfl⟩:=gD.slice (w:=w) (l:=ps) p6
  obtain ⟨q,qn,qc,rfl⟩:=eB.slice (w:=w) (l:=ms) p7
  have e0 : u0 = _:=p0
  have e1 : u1 = _:=p1
  have e2 : u2 = _:=p2
  have e5 : u5 = _:=p5
  subst e0 e1 e2 e5
  simp only [← Nat.add_assoc] at k1 k2 k3 k4 k5 k6 k7
  exact ⟨x,k,e,y,m,d,s,sn,sc,q,qn,qc,k0,k1,k2,k3,k4,k5,k6,k7,p3,p4,p6,p7⟩
/- Small things for walks. -/
theorem aF {α : Type} {l : List α} {j : Nat} (h : j < l.length) : ∃ x,l[j]? = some x:=⟨_,List.getElem?_eq_getElem h⟩
theorem aJ {α : Type} {l : List α} {j : Nat} {x : α} (h : l[j]? = some x) : l ≠ []:=by intro e;subst e;simp at h
theorem le63 {c : Nat} (h : c ≤ maxLen) : c ≤ 9223372036854775807:=by unfold maxLen at h;omega
theorem aB {w w' w'' : World} (h : Below w.heap.size w w') (h' : Below w'.heap.size w' w'') : Below w.heap.size w w'':=h.trans (h'.mono h.size)
theorem eP {W w1 : World} (hb : Below W.heap.size W w1) : (∀ b o,b < W.heap.size → w1.cell? ⟨b,o,none⟩ = W.cell? ⟨b,o,none⟩) ∧ (∀ b o,b < W.heap.size → w1.frozen? ⟨b,o,none⟩ = W.frozen? ⟨b,o,none⟩) :=
 ⟨fun b o h=>hb.cell (p:=⟨b,o,none⟩) h,fun b o h=>hb.frozen (p:=⟨b,o,none⟩) h⟩
theorem bB {w w1 : World} {o : Obj} (h : Below (w.alloc o).heap.size (w.alloc o) w1) : Below w.heap.size w w1:=aB bnew h
theorem iT {w w1 : World} {o o' : Obj} (h : Below ((w.alloc o).alloc o').heap.size ((w.alloc o).alloc o') w1) : Below w.heap.size w w1:=bB (bB h)
theorem bH (w : World) (o : Obj) : aR w (w.alloc o):=aA bnew
theorem iJ (w : World) (o o' : Obj) : aR w ((w.alloc o).alloc o'):=(bH w o).trans (bH _ o')
end Ly
