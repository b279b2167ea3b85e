/- Short forms of steps that the walks take often. Conditions: none but those of each statement. -/
import Derived.WalkKit
import Derived.Deep.RegionHeld
import Derived.Lib.QuietBelow
import Derived.Lib.Hide
set_option maxRecDepth 10000
set_option linter.unusedSimpArgs false
set_option linter.unusedVariables false
namespace Ly
open Go Go.RowKit Go.Sort
theorem bnew {w : World} {o : Obj} : Below w.heap.size w (w.alloc o):=(Below.refl _ _).alloc (Nat.le_refl _) _
theorem Hd {p : Prop} (h : p) : Hid p:=h
/-- A call returns a value and writes nothing old. -/
def Rt (v : Value) (w : World) : Ending → World → Prop:=fun e w'=>e = .returned v ∧ Below w.heap.size w w'
theorem s1 {α : Type _} {xs : List α} {i : Nat} (h : i < xs.toArray.size) : xs.toArray[i] = xs[i]'(by simpa using h):=List.getElem_toArray h
theorem s2 {α : Type _} (x : α) (xs : List α) (i : Nat) (h : i + 1 < (x :: xs).length) : (x :: xs)[i + 1] = xs[i]'(by simpa using h):=rfl
theorem s3 {α : Type _} (x : α) (xs : List α) (h : 0 < (x :: xs).length) : (x :: xs)[0] = x:=rfl
theorem s4 {α : Type _} (l : List α) (i : Nat) (x : α) : l.toArray.setIfInBounds i x = (l.set i x).toArray:=by simp
theorem s5 {α : Type _} {x : α} {xs : List α} {y : α} : (x :: xs).set 0 y = y :: xs:=rfl
theorem s6 {α : Type _} {x : α} {xs : List α} {n : Nat} {y : α} : (x :: xs).set (n + 1) y = x :: xs.set n y:=rfl
theorem qe {w : World} {R : World → Prop} (h : ∀ wq,Hid (Below w.heap.size w wq) → R wq) : ∀ w',(∃ p : Regrown,w' = grow (redrawn w p.d) p.os) → R w':=fun w' ⟨⟨d,os⟩,e⟩=>h w' (by show Below _ _ _;rw [e];exact below_regrown w d os)
theorem wqb {P : Program} {id : Nat} {Q : Exit → Act → World → Prop} {a : Act} {w : World} {l : List Oper}
    (h : wpQuiet P l.toArray (fun w'=>∃ p : Regrown,w' = grow (redrawn w p.d) p.os) (fun a'=>∀ w',(∃ p : Regrown,w' = grow (redrawn w p.d) p.os) → Q .normal a' w') l a)
    (hm : P.follows .mixedOrders = true:=by kernel_rfl) (hB : Region.lexB .any l.toArray = true:=by kernel_rfl) : (Code.region id l.toArray true).wp P Q a w:=wp_region_quiet_below hm hB h
section
variable {P : Program} {ops : Array Oper} {Q : Exit → Act → World → Prop} {md : Region.Mode} {S : World → Prop}
theorem tk (i : Nat) {oi : Oper} {v : Value} {fuel : Nat} {listed : Array Bool} {a : Act} {w : World}
    (h : wpAnyH P md ops Q S fuel (listed.setIfInBounds i true) (a.put oi.dst v) w) (hi : ops[i]? = some oi:=by rfl)
    (hb : (Region.noSelect ops && Region.free md ops listed i && (Region.ready md ops listed).contains i) = true:=by kernel_rfl)
    (hQ : ∀ c a w,Q (.panic c) (a.put oi.dst v) w → Q (.panic c) a w:=by exact fun _ _ _ h=>h) (hw : Region.wanted oi (yielded ops a.tmps) = true:=by rfl)
    (hv : ∀ w0,S w0 → (execOp a.eval oi).run P w0 = .ok (.value v) w0:=by intro w0 hSw;go_simp;try with_reducible rfl) (hS : S w:=by assumption) :
    wpAnyH P md ops Q S (fuel + 1) listed a w:=by
  simp only [Bool.and_eq_true] at hb
  exact wpAnyH_take hi hb.1.1 hb.1.2 hb.2 hQ (.inl ⟨hw,hv⟩) hS h
theorem rd (i : Nat) {o : Oper} {fuel : Nat} {listed : Array Bool} {a : Act} {w : World}
    (h : ∀ K' : Act → World → Prop,Shut (∀ a w,S w → (S w → wpAnyH P md ops Q S fuel (listed.setIfInBounds i true) a w) → K' a w) → if Region.wanted o (yielded ops a.tmps) = true then Oper.wp P o a w K' Q else K' (a.put o.dst undef) w)
    (hr : Region.ready md ops listed = [i]:=by kernel_rfl) (ho : ops[i]? = some o:=by rfl) : wpAnyH P md ops Q S (fuel + 1) listed a w :=
  wpAnyH_ready hr (by simp) (AllReadyH.cons ho h AllReadyH.nil)
end
end Ly
