/- Steps through a region that draws its order, one by one, by the library's laws; the operation at hand is found in the row as it is written. -/
import Derived.Test.YtnpdpfkoghhioaaDoorXH
import Derived.Deep.RegionHeld3
import Derived.RegionTactic
namespace Go.Proofs.YtnpdpfkoghhioaaDoor
open Go.RowKit

/-- Number i of a row, by walking along it: what it yields is the operation as it is written. -/
def pickOp : List Oper → Nat → Option Oper
  | [], _ => none
  | o :: _, 0 => some o
  | _ :: l, n + 1 => pickOp l n
theorem pickOp_at : ∀ (l : List Oper) (i : Nat) {o : Oper}, pickOp l i = some o → l.toArray[i]? = some o := by
  intro l
  induction l with
  | nil => intro i o h; cases h
  | cons a l ih =>
    intro i o h
    cases i with
    | zero => simpa [pickOp] using h
    | succ n => simpa [pickOp] using ih n h
section
variable {P : Program} {l : List Oper} {Q : Exit → Act → World → Prop} {md : Region.Mode} {S : World → Prop}
/-- The operation number i comes first: its value is known in every world that meets S. -/
theorem hTake {i : Nat} {oi : Oper} {v : Value} {fuel : Nat} {listed : Array Bool} {a : Act} {w : World} (hi : pickOp l i = some oi)
    (hs : Region.noSelect l.toArray = true) (hf : Region.free md l.toArray listed i = true) (hr : (Region.ready md l.toArray listed).contains i = true)
    (hQ : ∀ c a w, Q (.panic c) (a.put oi.dst v) w → Q (.panic c) a w) (hw : Region.wanted oi (yielded l.toArray a.tmps) = true)
    (hy : ∀ w, S w → (execOp a.eval oi).run P w = .ok (.value v) w) (hS : S w)
    (h : wpAnyH P md l.toArray Q S fuel (listed.setIfInBounds i true) (a.put oi.dst v) w) : wpAnyH P md l.toArray Q S (fuel + 1) listed a w :=
  wpAnyH_take (pickOp_at l i hi) hs hf hr hQ (Or.inl ⟨hw, hy⟩) hS h
/-- Nobody wants the operation number i. -/
theorem hSkip {i : Nat} {oi : Oper} {fuel : Nat} {listed : Array Bool} {a : Act} {w : World} (hi : pickOp l i = some oi)
    (hs : Region.noSelect l.toArray = true) (hf : Region.free md l.toArray listed i = true) (hr : (Region.ready md l.toArray listed).contains i = true)
    (hQ : ∀ c a w, Q (.panic c) (a.put oi.dst undef) w → Q (.panic c) a w) (hw : Region.wanted oi (yielded l.toArray a.tmps) = false) (hS : S w)
    (h : wpAnyH P md l.toArray Q S fuel (listed.setIfInBounds i true) (a.put oi.dst undef) w) : wpAnyH P md l.toArray Q S (fuel + 1) listed a w :=
  wpAnyH_take (pickOp_at l i hi) hs hf hr hQ (Or.inr ⟨hw, rfl⟩) hS h
/-- The operation number i alone may come up. -/
theorem hOne {i : Nat} {oi : Oper} {fuel : Nat} {listed : Array Bool} {a : Act} {w : World} (hi : pickOp l i = some oi)
    (hr : Region.ready md l.toArray listed = [i])
    (h : ∀ K' : Act → World → Prop, Shut (∀ a w, S w → (S w → wpAnyH P md l.toArray Q S fuel (listed.setIfInBounds i true) a w) → K' a w) → if Region.wanted oi (yielded l.toArray a.tmps) = true then Oper.wp P oi a w K' Q else K' (a.put oi.dst undef) w) :
    wpAnyH P md l.toArray Q S (fuel + 1) listed a w :=
  wpAnyH_ready hr (by simp) (AllReadyH.cons (pickOp_at l i hi) h AllReadyH.nil)
/-- Two may come up. -/
theorem hTwo {i j : Nat} {oi oj : Oper} {fuel : Nat} {listed : Array Bool} {a : Act} {w : World} (hi : pickOp l i = some oi) (hj : pickOp l j = some oj)
    (hr : Region.ready md l.toArray listed = [i, j])
    (h : ∀ K' : Act → World → Prop, Shut (∀ a w, S w → (S w → wpAnyH P md l.toArray Q S fuel (listed.setIfInBounds i true) a w) → K' a w) → if Region.wanted oi (yielded l.toArray a.tmps) = true then Oper.wp P oi a w K' Q else K' (a.put oi.dst undef) w)
    (h' : ∀ K' : Act → World → Prop, Shut (∀ a w, S w → (S w → wpAnyH P md l.toArray Q S fuel (listed.setIfInBounds j true) a w) → K' a w) → if Region.wanted oj (yielded l.toArray a.tmps) = true then Oper.wp P oj a w K' Q else K' (a.put oj.dst undef) w) :
    wpAnyH P md l.toArray Q S (fuel + 1) listed a w :=
  wpAnyH_ready hr (by simp) (AllReadyH.cons (pickOp_at l i hi) h (AllReadyH.cons (pickOp_at l j hj) h' AllReadyH.nil))
end
end Go.Proofs.YtnpdpfkoghhioaaDoor
