/- How formulas, terms, proofs and lists lie in memory: a cell's content to the bottom, and that it stays where nothing old is written. -/
import Derived.Test.YtcandidgaegghaaGreatDoorCpZ
import Derived.WalkKit
import Derived.Test.YtcandidgaegghaaGreatDoorPlZ
set_option maxRecDepth 10000
set_option linter.unusedSimpArgs false
set_option linter.unusedVariables false
namespace Ly
open Go Go.RowKit
inductive D where
 | val (v : Value)
 | sl (size n : Nat) (cells : List D)
mutual
def At (w : World) : D → Value → Prop
 | .val v,u=>u = v
 | .sl size n ds,u=>∃ a cap,u = .slice a n cap ∧ n ≤ cap ∧ cap ≤ maxLen ∧ ds.length = n * size ∧ (n = 0 ∨ ∃ b off,a = some ⟨b,off,none⟩ ∧ jV w b off ds)
def jV (w : World) (b : Nat) : Nat → List D → Prop
 | _,[]=>True
 | off,d :: ds=>(∃ u,w.cell? ⟨b,off,none⟩ = some u ∧ At w d u) ∧ jV w b (off + 1) ds
end
def bI (w w' : World) : Prop:=∀ a v,w.cell? a = some v → w'.cell? a = some v
theorem bI.trans {a b c : World} (h : bI a b) (h' : bI b c) : bI a c:=fun p v hp=>h' p v (h p v hp)
theorem aC {w w' : World} (h : Below w.heap.size w w') : bI w w':=fun a v hv=>by
 rw [h.cell (World.block_lt_of_cell? w a hv)];exact hv
mutual
theorem At.keep {w w' : World} (hk : bI w w') : ∀ (d : D) (u : Value),At w d u → At w' d u
 | .val v,u,h=>h
 | .sl size n ds,u,h=>by
  obtain ⟨a,cap,h1,h2,h3,h4,h5⟩:=h
  refine ⟨a,cap,h1,h2,h3,h4, ?_⟩
  rcases h5 with h5 | ⟨b,off,e,h5⟩
  ·exact .inl h5
  ·exact .inr ⟨b,off,e,jV.keep hk b off ds h5⟩
theorem jV.keep {w w' : World} (hk : bI w w') (b : Nat) : ∀ (off : Nat) (ds : List D),jV w b off ds → jV w' b off ds
 | _,[],_=>trivial
 | off,d :: ds,h=>by
  obtain ⟨⟨u,h1,h2⟩,h3⟩:=h
  exact ⟨⟨u,hk _ _ h1,At.keep hk d u h2⟩,jV.keep hk b (off + 1) ds h3⟩
end
theorem jV.get {w : World} {b : Nat} : ∀ {off : Nat} {ds : List D},jV w b off ds → ∀ (j : Nat) (d : D),ds[j]? = some d → ∃ u,w.cell? ⟨b,off + j,none⟩ = some u ∧ At w d u
 | _,[],_,j,d,h=>by simp at h
 | off,x :: ds,h,0,d,e=>by
  obtain ⟨⟨u,h1,h2⟩,_⟩:=h
  simp at e;subst e
  exact ⟨u,h1,h2⟩
 | off,x :: ds,h,j + 1,d,e=>by
  have:=jV.get h.2 j d (by simpa using e)
  rwa [show off + 1 + j = off + (j + 1) by omega] at this
theorem jV.mk {w : World} {b : Nat} : ∀ {off : Nat} {ds : List D},(∀ (j : Nat) (d : D),ds[j]? = some d → ∃ u,w.cell? ⟨b,off + j,none⟩ = some u ∧ At w d u) → jV w b off ds
 | _,[],_=>trivial
 | off,x :: ds,h=>⟨h 0 x (by simp),jV.mk fun j d hd=>by
   have:=h (j + 1) d (by simpa using hd)
   rwa [show off + (j + 1) = off + 1 + j by omega] at this⟩
theorem At.sl_inv {w : World} {size n : Nat} {ds : List D} {u : Value} (h : At w (.sl size n ds) u) :
  ∃ a cap,u = .slice a n cap ∧ n ≤ cap ∧ cap ≤ maxLen ∧ ds.length = n * size ∧ (n = 0 ∨ ∃ b off,a = some ⟨b,off,none⟩ ∧ ∀ (j : Nat) (d : D),ds[j]? = some d → ∃ u,w.cell? ⟨b,off + j,none⟩ = some u ∧ At w d u):=by
 obtain ⟨a,cap,h1,h2,h3,h4,h5⟩:=h
 refine ⟨a,cap,h1,h2,h3,h4, ?_⟩
 rcases h5 with h5 | ⟨b,off,e,h5⟩
 ·exact .inl h5
 ·exact .inr ⟨b,off,e,fun j d hd=>h5.get j d hd⟩
theorem At.sl_mk {w : World} {size n : Nat} {ds : List D} {b off cap : Nat} (hl : ds.length = n * size) (hn : n ≤ cap) (hc : cap ≤ maxLen)
  (h : ∀ (j : Nat) (d : D),ds[j]? = some d → ∃ u,w.cell? ⟨b,off + j,none⟩ = some u ∧ At w d u) : At w (.sl size n ds) (.slice (some ⟨b,off,none⟩) n cap) :=
 ⟨_,_,rfl,hn,hc,hl,.inr ⟨b,off,rfl,jV.mk h⟩⟩
theorem At.sl_nil {w : World} {size : Nat} {a : Option Addr} {cap : Nat} (hc : cap ≤ maxLen) : At w (.sl size 0 []) (.slice a 0 cap) :=
 ⟨a,cap,rfl,Nat.zero_le _,hc,by simp,.inl rfl⟩
/- Strings, lists of strings, of numbers. -/
abbrev str (s : Bs) : Value:=.string ⟨s.toArray⟩
def strD (s : Bs) : D:=.val (str s)
def intD (n : Int) : D:=.val (.int .i64 n)
def aX (w : World) (l : List Bs) (u : Value) : Prop:=At w (.sl 1 l.length (l.map strD)) u
def dF (w : World) (l : List Int) (u : Value) : Prop:=At w (.sl 1 l.length (l.map intD)) u
def qB (l : List Int) : D:=.sl 1 l.length (l.map intD)
def eU (w : World) (l : List (List Int)) (u : Value) : Prop:=At w (.sl 1 l.length (l.map qB)) u
/- Terms, formulas, proofs. -/
mutual
def Tm.ds : Tm → List D
 | .mk v n as=>[.val (.bool v),.val (str n),.sl 3 as.length (fA as)]
def fA : List Tm → List D
 | []=>[]
 | t :: ts=>t.ds ++ fA ts
end
mutual
def Fm.ds : Fm → List D
 | .mk op n as sub=>[.val (.int .u8 op),.val (str n),.sl 3 as.length (fA as),.sl 4 sub.length (fO sub)]
def fO : List Fm → List D
 | []=>[]
 | f :: fs=>f.ds ++ fO fs
end
mutual
def Pf.ds : Pf → List D
 | .mk r f l sub ms=>.val (str r) :: (f.ds ++ [.val (.int .i64 l),.sl 8 sub.length (mC sub),.sl 1 ms.length (ms.map qB)])
def mC : List Pf → List D
 | []=>[]
 | p :: ps=>p.ds ++ mC ps
end
def cH (w : World) (l : List Tm) (u : Value) : Prop:=At w (.sl 3 l.length (fA l)) u
def dH (w : World) (l : List Fm) (u : Value) : Prop:=At w (.sl 4 l.length (fO l)) u
def jA (w : World) (l : List Pf) (u : Value) : Prop:=At w (.sl 8 l.length (mC l)) u
def xP (w : World) (t : Tm) (u : Value) : Prop:=∃ a n c,u = .agg #[.bool t.v,str t.name,.slice a n c] ∧ cH w t.args (.slice a n c)
def iZ (w : World) (f : Fm) (u : Value) : Prop :=
 ∃ a n c b m d,u = .agg #[.int .u8 f.op,str f.name,.slice a n c,.slice b m d] ∧ cH w f.args (.slice a n c) ∧ dH w f.sub (.slice b m d)
theorem cH.keep {w w' : World} {l : List Tm} {u : Value} (h : cH w l u) (k : bI w w') : cH w' l u:=At.keep k _ _ h
theorem dH.keep {w w' : World} {l : List Fm} {u : Value} (h : dH w l u) (k : bI w w') : dH w' l u:=At.keep k _ _ h
theorem jA.keep {w w' : World} {l : List Pf} {u : Value} (h : jA w l u) (k : bI w w') : jA w' l u:=At.keep k _ _ h
theorem aX.keep {w w' : World} {l : List Bs} {u : Value} (h : aX w l u) (k : bI w w') : aX w' l u:=At.keep k _ _ h
theorem dF.keep {w w' : World} {l : List Int} {u : Value} (h : dF w l u) (k : bI w w') : dF w' l u:=At.keep k _ _ h
theorem eU.keep {w w' : World} {l : List (List Int)} {u : Value} (h : eU w l u) (k : bI w w') : eU w' l u:=At.keep k _ _ h
theorem Tm.ds_length (t : Tm) : t.ds.length = 3:=by cases t;rfl
theorem Fm.ds_length (f : Fm) : f.ds.length = 4:=by cases f;rfl
theorem Pf.ds_length (p : Pf) : p.ds.length = 8:=by cases p;simp [Pf.ds,Fm.ds_length]
theorem pH {α : Type} (ds : α → List D) (all : List α → List D) (k : Nat) (hk : ∀ x,(ds x).length = k) (h0 : all [] = []) (h1 : ∀ x xs,all (x :: xs) = ds x ++ all xs) :
  ∀ (l : List α) (i : Nat) (x : α),l[i]? = some x → ∀ j,j < k → (all l)[i * k + j]? = (ds x)[j]?
 | [],i,x,h,_,_=>by simp at h
 | y :: ys,0,x,h,j,hj=>by
  simp at h;subst h
  rw [h1,Nat.zero_mul,Nat.zero_add,List.getElem?_append_left (by rw [hk];exact hj)]
 | y :: ys,i + 1,x,h,j,hj=>by
  rw [h1,List.getElem?_append_right (by rw [hk,Nat.succ_mul];omega),hk,show (i + 1) * k + j - k = i * k + j by rw [Nat.succ_mul];omega]
  exact pH ds all k hk h0 h1 ys i x (by simpa using h) j hj
theorem qG (l : List Tm) (i : Nat) (t : Tm) (h : l[i]? = some t) (j : Nat) (hj : j < 3) : (fA l)[i * 3 + j]? = t.ds[j]? :=
 pH Tm.ds fA 3 Tm.ds_length (by simp [fA]) (by intros;simp [fA]) l i t h j hj
theorem nL (l : List Fm) (i : Nat) (t : Fm) (h : l[i]? = some t) (j : Nat) (hj : j < 4) : (fO l)[i * 4 + j]? = t.ds[j]? :=
 pH Fm.ds fO 4 Fm.ds_length (by simp [fO]) (by intros;simp [fO]) l i t h j hj
theorem iC (l : List Pf) (i : Nat) (t : Pf) (h : l[i]? = some t) (j : Nat) (hj : j < 8) : (mC l)[i * 8 + j]? = t.ds[j]? :=
 pH Pf.ds mC 8 Pf.ds_length (by simp [mC]) (by intros;simp [mC]) l i t h j hj
structure TmCells (w : World) (b o : Nat) (t : Tm) (a : Option Addr) (n c : Nat) : Prop where
 c0 : w.cell? ⟨b,o,none⟩ = some (.bool t.v)
 c1 : w.cell? ⟨b,o + 1,none⟩ = some (str t.name)
 c2 : w.cell? ⟨b,o + 2,none⟩ = some (.slice a n c)
 at_ : cH w t.args (.slice a n c)
structure vC (w : World) (b o : Nat) (f : Fm) (a : Option Addr) (n c : Nat) (a' : Option Addr) (m d : Nat) : Prop where
 c0 : w.cell? ⟨b,o,none⟩ = some (.int .u8 f.op)
 c1 : w.cell? ⟨b,o + 1,none⟩ = some (str f.name)
 c2 : w.cell? ⟨b,o + 2,none⟩ = some (.slice a n c)
 c3 : w.cell? ⟨b,o + 3,none⟩ = some (.slice a' m d)
 at_ : cH w f.args (.slice a n c)
 at' : dH w f.sub (.slice a' m d)
theorem cH.len {w : World} {l : List Tm} {a : Option Addr} {n c : Nat} (h : cH w l (.slice a n c)) : n = l.length ∧ n ≤ c ∧ c ≤ maxLen:=by
 obtain ⟨a',cap,e,h1,h2,_⟩:=h
 simp only [Value.slice.injEq] at e
 obtain ⟨_,rfl,rfl⟩:=e
 exact ⟨rfl,h1,h2⟩
theorem dH.len {w : World} {l : List Fm} {a : Option Addr} {n c : Nat} (h : dH w l (.slice a n c)) : n = l.length ∧ n ≤ c ∧ c ≤ maxLen:=by
 obtain ⟨a',cap,e,h1,h2,_⟩:=h
 simp only [Value.slice.injEq] at e
 obtain ⟨_,rfl,rfl⟩:=e
 exact ⟨rfl,h1,h2⟩
theorem cH.slice {w : World} {l : List Tm} {u : Value} (h : cH w l u) : ∃ a n c,u = .slice a n c:=by
 obtain ⟨a,c,e,_⟩:=h;exact ⟨a,_,c,e⟩
theorem dH.slice {w : World} {l : List Fm} {u : Value} (h : dH w l u) : ∃ a n c,u = .slice a n c:=by
 obtain ⟨a,c,e,_⟩:=h;exact ⟨a,_,c,e⟩
theorem cH.get {w : World} {l : List Tm} {a : Option Addr} {n c : Nat} (h : cH w l (.slice a n c)) (hn : l ≠ []) :
  ∃ b off,a = some ⟨b,off,none⟩ ∧ ∀ (i : Nat) (t : Tm),l[i]? = some t → ∃ x k e,TmCells w b (off + i * 3) t x k e:=by
 obtain ⟨a',cap,e,_,_,_,h5⟩:=h.sl_inv
 simp only [Value.slice.injEq] at e
 obtain ⟨rfl,rfl,rfl⟩:=e
 rcases h5 with h5 | ⟨b,off,rfl,h5⟩
 ·exact absurd (List.eq_nil_of_length_eq_zero h5) hn
 ·refine ⟨b,off,rfl,fun i t ht=>?_⟩
  obtain ⟨v,nm,as⟩:=t
  obtain ⟨u0,k0,p0⟩:=h5 (i * 3) (.val (.bool v)) (qG l i _ ht 0 (by omega))
  obtain ⟨u1,k1,p1⟩:=h5 (i * 3 + 1) (.val (str nm)) (qG l i _ ht 1 (by omega))
  obtain ⟨u2,k2,p2⟩:=h5 (i * 3 + 2) (.sl 3 as.length (fA as)) (qG l i _ ht 2 (by omega))
  obtain ⟨x,k,e,rfl⟩:=cH.slice (w:=w) (l:=as) p2
  have p0' : u0 = _:=p0
  have p1' : u1 = _:=p1
  subst p0' p1'
  exact ⟨x,k,e,k0,by rw [Nat.add_assoc];exact k1,by rw [Nat.add_assoc];exact k2,p2⟩
theorem dH.get {w : World} {l : List Fm} {a : Option Addr} {n c : Nat} (h : dH w l (.slice a n c)) (hn : l ≠ []) :
  ∃ b off,a = some ⟨b,off,none⟩ ∧ ∀ (i : Nat) (f : Fm),l[i]? = some f → ∃ x k e y m d,vC w b (off + i * 4) f x k e y m d:=by
 obtain ⟨a',cap,e,_,_,_,h5⟩:=h.sl_inv
 simp only [Value.slice.injEq] at e
 obtain ⟨rfl,rfl,rfl⟩:=e
 rcases h5 with h5 | ⟨b,off,rfl,h5⟩
 ·exact absurd (List.eq_nil_of_length_eq_zero h5) hn
 ·refine ⟨b,off,rfl,fun i t ht=>?_⟩
  obtain ⟨op,nm,as,sub⟩:=t
  obtain ⟨u0,k0,p0⟩:=h5 (i * 4) (.val (.int .u8 op)) (nL l i _ ht 0 (by omega))
  obtain ⟨u1,k1,p1⟩:=h5 (i * 4 + 1) (.val (str nm)) (nL l i _ ht 1 (by omega))
  obtain ⟨u2,k2,p2⟩:=h5 (i * 4 + 2) (.sl 3 as.length (fA as)) (nL l i _ ht 2 (by omega))
  obtain ⟨u3,k3,p3⟩:=h5 (i * 4 + 3) (.sl 4 sub.length (fO sub)) (nL l i _ ht 3 (by omega))
  obtain ⟨x,k,e,rfl⟩:=cH.slice (w:=w) (l:=as) p2
  obtain ⟨y,m,d,rfl⟩:=dH.slice (w:=w) (l:=sub) p3
  have p0' : u0 = _:=p0
  have p1' : u1 = _:=p1
  subst p0' p1'
  exact ⟨x,k,e,y,m,d,k0,by rw [Nat.add_assoc];exact k1,by rw [Nat.add_assoc];exact k2,by rw [Nat.add_assoc];exact k3,p2,p3⟩
structure PfCells (w : World) (b o : Nat) (p : Pf) (a : Option Addr) (n c : Nat) (a' : Option Addr) (m d : Nat) (s : Option Addr) (sn sc : Nat) (q : Option Addr) (qn qc : Nat) : Prop where
 c0 : w.cell? ⟨b,o,none⟩ = some (str p.rule)
 c1 : w.cell? ⟨b,o + 1,none⟩ = some (.int .u8 p.form.op)
 c2 : w.cell? ⟨b,o + 2,none⟩ = some (str p.form.name)
 c3 : w.cell? ⟨b,o + 3,none⟩ = some (.slice a n c)
 c4 : w.cell? ⟨b,o + 4,none⟩ = some (.slice a' m d)
 c5 : w.cell? ⟨b,o + 5,none⟩ = some (.int .i64 p.label)
 c6 : w.cell? ⟨b,o + 6,none⟩ = some (.slice s sn sc)
 c7 : w.cell? ⟨b,o + 7,none⟩ = some (.slice q qn qc)
 args : cH w p.form.args (.slice a n c)
 parts : dH w p.form.sub (.slice a' m d)
 sub : jA w p.sub (.slice s sn sc)
 marks : eU w p.marks (.slice q qn qc)
def oO (w : World) (p : Pf) (u : Value) : Prop :=
 ∃ a n c b m d s sn sc q qn qc,u = .agg #[str p.rule,.int .u8 p.form.op,str p.form.name,.slice a n c,.slice b m d,.int .i64 p.label,.slice s sn sc,.slice q qn qc] ∧
  cH w p.form.args (.slice a n c) ∧ dH w p.form.sub (.slice b m d) ∧ jA w p.sub (.slice s sn sc) ∧ eU w p.marks (.slice q qn qc)
theorem oO.keep {w w' : World} {f : Pf} {u : Value} (h : oO w f u) (k : bI w w') : oO w' f u:=by
 obtain ⟨a,n,c,b,m,d,s,sn,sc,q,qn,qc,e,h1,h2,h3,h4⟩:=h;exact ⟨a,n,c,b,m,d,s,sn,sc,q,qn,qc,e,h1.keep k,h2.keep k,h3.keep k,h4.keep k⟩
theorem jA.len {w : World} {l : List Pf} {a : Option Addr} {n c : Nat} (h : jA w l (.slice a n c)) : n = l.length ∧ n ≤ c ∧ c ≤ maxLen:=by
 obtain ⟨a',cap,e,h1,h2,_⟩:=h
 simp only [Value.slice.injEq] at e
 obtain ⟨_,rfl,rfl⟩:=e
 exact ⟨rfl,h1,h2⟩
theorem jA.slice {w : World} {l : List Pf} {u : Value} (h : jA w l u) : ∃ a n c,u = .slice a n c:=by
 obtain ⟨a,c,e,_⟩:=h;exact ⟨a,_,c,e⟩
theorem dF.len {w : World} {l : List Int} {a : Option Addr} {n c : Nat} (h : dF w l (.slice a n c)) : n = l.length ∧ n ≤ c ∧ c ≤ maxLen:=by
 obtain ⟨a',cap,e,h1,h2,_⟩:=h
 simp only [Value.slice.injEq] at e
 obtain ⟨_,rfl,rfl⟩:=e
 exact ⟨rfl,h1,h2⟩
theorem dF.slice {w : World} {l : List Int} {u : Value} (h : dF w l u) : ∃ a n c,u = .slice a n c:=by
 obtain ⟨a,c,e,_⟩:=h;exact ⟨a,_,c,e⟩
theorem aX.len {w : World} {l : List Bs} {a : Option Addr} {n c : Nat} (h : aX w l (.slice a n c)) : n = l.length ∧ n ≤ c ∧ c ≤ maxLen:=by
 obtain ⟨a',cap,e,h1,h2,_⟩:=h
 simp only [Value.slice.injEq] at e
 obtain ⟨_,rfl,rfl⟩:=e
 exact ⟨rfl,h1,h2⟩
theorem aX.slice {w : World} {l : List Bs} {u : Value} (h : aX w l u) : ∃ a n c,u = .slice a n c:=by
 obtain ⟨a,c,e,_⟩:=h;exact ⟨a,_,c,e⟩
theorem eU.len {w : World} {l : List (List Int)} {a : Option Addr} {n c : Nat} (h : eU w l (.slice a n c)) : n = l.length ∧ n ≤ c ∧ c ≤ maxLen:=by
 obtain ⟨a',cap,e,h1,h2,_⟩:=h
 simp only [Value.slice.injEq] at e
 obtain ⟨_,rfl,rfl⟩:=e
 exact ⟨rfl,h1,h2⟩
theorem eU.slice {w : World} {l : List (List Int)} {u : Value} (h : eU w l u) : ∃ a n c,u = .slice a n c:=by
 obtain ⟨a,c,e,_⟩:=h;exact ⟨a,_,c,e⟩
theorem dF.get {w : World} {l : List Int} {a : Option Addr} {n c : Nat} (h : dF w l (.slice a n c)) (hn : l ≠ []) :
  ∃ b off,a = some ⟨b,off,none⟩ ∧ ∀ (i : Nat) (x : Int),l[i]? = some x → w.cell? ⟨b,off + i,none⟩ = some (.int .i64 x):=by
 obtain ⟨a',cap,e,_,_,_,h5⟩:=h.sl_inv
 simp only [Value.slice.injEq] at e
 obtain ⟨rfl,rfl,rfl⟩:=e
 rcases h5 with h5 | ⟨b,off,rfl,h5⟩
 ·exact absurd (List.eq_nil_of_length_eq_zero h5) hn
 ·refine ⟨b,off,rfl,fun i x hx=>?_⟩
  obtain ⟨u,k,p⟩:=h5 i (intD x) (by rw [List.getElem?_map,hx];rfl)
  have p' : u = _:=p
  subst p';exact k
theorem aX.get {w : World} {l : List Bs} {a : Option Addr} {n c : Nat} (h : aX w l (.slice a n c)) (hn : l ≠ []) :
  ∃ b off,a = some ⟨b,off,none⟩ ∧ ∀ (i : Nat) (x : Bs),l[i]? = some x → w.cell? ⟨b,off + i,none⟩ = some (str x):=by
 obtain ⟨a',cap,e,_,_,_,h5⟩:=h.sl_inv
 simp only [Value.slice.injEq] at e
 obtain ⟨rfl,rfl,rfl⟩:=e
 rcases h5 with h5 | ⟨b,off,rfl,h5⟩
 ·exact absurd (List.eq_nil_of_length_eq_zero h5) hn
 ·refine ⟨b,off,rfl,fun i x hx=>?_⟩
  obtain ⟨u,k,p⟩:=h5 i (strD x) (by rw [List.getElem?_map,hx];rfl)
  have p' : u = _:=p
  subst p';exact k
theorem eU.get {w : World} {l : List (List Int)} {a : Option Addr} {n c : Nat} (h : eU w l (.slice a n c)) (hn : l ≠ []) :
  ∃ b off,a = some ⟨b,off,none⟩ ∧ ∀ (i : Nat) (x : List Int),l[i]? = some x → ∃ s sn sc,w.cell? ⟨b,off + i,none⟩ = some (.slice s sn sc) ∧ dF w x (.slice s sn sc):=by
 obtain ⟨a',cap,e,_,_,_,h5⟩:=h.sl_inv
 simp only [Value.slice.injEq] at e
 obtain ⟨rfl,rfl,rfl⟩:=e
 rcases h5 with h5 | ⟨b,off,rfl,h5⟩
 ·exact absurd (List.eq_nil_of_length_eq_zero h5) hn
 ·refine ⟨b,off,rfl,fun i x hx=>?_⟩
  obtain ⟨u,k,p⟩:=h5 i (qB x) (by rw [List.getElem?_map,hx];rfl)
  obtain ⟨s,sn,sc,rfl⟩:=dF.slice (w:=w) (l:=x) p
  exact ⟨s,sn,sc,k,p⟩
theorem jA.get {w : World} {l : List Pf} {a : Option Addr} {n c : Nat} (h : jA w l (.slice a n c)) (hn : l ≠ []) :
  ∃ b off,a = some ⟨b,off,none⟩ ∧ ∀ (i : Nat) (p : Pf),l[i]? = some p → ∃ a n c a' m d s sn sc q qn qc,PfCells w b (off + i * 8) p a n c a' m d s sn sc q qn qc:=by
 obtain ⟨a',cap,e,_,_,_,h5⟩:=h.sl_inv
 simp only [Value.slice.injEq] at e
 obtain ⟨rfl,rfl,rfl⟩:=e
 rcases h5 with h5 | ⟨b,off,rfl,h5⟩
 ·exact absurd (List.eq_nil_of_length_eq_zero h5) hn
 ·refine ⟨b,off,rfl,fun i t ht=>?_⟩
  obtain ⟨r,⟨op,nm,as,sub⟩,lb,ps,ms⟩:=t
  obtain ⟨u0,k0,p0⟩:=h5 (i * 8) (.val (str r)) (iC l i _ ht 0 (by omega))
  obtain ⟨u1,k1,p1⟩:=h5 (i * 8 + 1) (.val (.int .u8 op)) (iC l i _ ht 1 (by omega))
  obtain ⟨u2,k2,p2⟩:=h5 (i * 8 + 2) (.val (str nm)) (iC l i _ ht 2 (by omega))
  obtain ⟨u3,k3,p3⟩:=h5 (i * 8 + 3) (.sl 3 as.length (fA as)) (iC l i _ ht 3 (by omega))
  obtain ⟨u4,k4,p4⟩:=h5 (i * 8 + 4) (.sl 4 sub.length (fO sub)) (iC l i _ ht 4 (by omega))
  obtain ⟨u5,k5,p5⟩:=h5 (i * 8 + 5) (.val (.int .i64 lb)) (iC l i _ ht 5 (by omega))
  obtain ⟨u6,k6,p6⟩:=h5 (i * 8 + 6) (.sl 8 ps.length (mC ps)) (iC l i _ ht 6 (by omega))
  obtain ⟨u7,k7,p7⟩:=h5 (i * 8 + 7) (.sl 1 ms.length (ms.map qB)) (iC l i _ ht 7 (by omega))
  obtain ⟨x,k,e,rfl⟩:=cH.slice (w:=w) (l:=as) p3
  obtain ⟨y,m,d,rfl⟩:=dH.slice (w:=w) (l:=sub) p4
  obtain ⟨s,sn,sc,rfl⟩:=jA.slice (w:=w) (l:=ps) p6
  obtain ⟨q,qn,qc,rfl⟩:=eU.slice (w:=w) (l:=ms) p7
  have e0 : u0 = _:=p0
  have e1 : u1 = _:=p1
  have e2 : u2 = _:=p2
  have e5 : u5 = _:=p5
  subst e0 e1 e2 e5
  simp only [← Nat.add_assoc] at k1 k2 k3 k4 k5 k6 k7
  exact ⟨x,k,e,y,m,d,s,sn,sc,q,qn,qc,k0,k1,k2,k3,k4,k5,k6,k7,p3,p4,p6,p7⟩
/- Small things for walks. -/
theorem aH {α : Type} {l : List α} {j : Nat} (h : j < l.length) : ∃ x,l[j]? = some x:=⟨_,List.getElem?_eq_getElem h⟩
theorem bG {α : Type} {l : List α} {j : Nat} {x : α} (h : l[j]? = some x) : l ≠ []:=by intro e;subst e;simp at h
theorem le63 {c : Nat} (h : c ≤ maxLen) : c ≤ 9223372036854775807:=by unfold maxLen at h;omega
theorem aA {w w' w'' : World} (h : Below w.heap.size w w') (h' : Below w'.heap.size w' w'') : Below w.heap.size w w'':=h.trans (h'.mono h.size)
theorem fG {W w1 : World} (hb : Below W.heap.size W w1) : (∀ b o,b < W.heap.size → w1.cell? ⟨b,o,none⟩ = W.cell? ⟨b,o,none⟩) ∧ (∀ b o,b < W.heap.size → w1.frozen? ⟨b,o,none⟩ = W.frozen? ⟨b,o,none⟩) :=
 ⟨fun b o h=>hb.cell (p:=⟨b,o,none⟩) h,fun b o h=>hb.frozen (p:=⟨b,o,none⟩) h⟩
theorem bO {w w1 : World} {o : Obj} (h : Below (w.alloc o).heap.size (w.alloc o) w1) : Below w.heap.size w w1:=aA bnew h
theorem eY {w w1 : World} {o o' : Obj} (h : Below ((w.alloc o).alloc o').heap.size ((w.alloc o).alloc o') w1) : Below w.heap.size w w1:=bO (bO h)
theorem bU (w : World) (o : Obj) : bI w (w.alloc o):=aC bnew
theorem gY (w : World) (o o' : Obj) : bI w ((w.alloc o).alloc o'):=(bU w o).trans (bU _ o')
end Ly
