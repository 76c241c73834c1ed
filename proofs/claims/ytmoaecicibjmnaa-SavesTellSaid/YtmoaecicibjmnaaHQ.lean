/- A region that draws its order, whose operations only read and whose callees make memory of their own but hand back plain values: one walk of the order of the text. Plain theorems, no function of the program. -/
import Derived.Deep.QuietTactic
import Derived.BigQuiet
import Derived.Below
namespace Go.Proofs.Ytmoaecicibjmnaa
open Go.RowKit

/-- The worlds that are as W was below its heap's end. -/
def Ext (W : World) : Type := { w : World // Below W.heap.size W w }
instance (W : World) : Nonempty (Ext W) := ⟨⟨W, Below.refl _ _⟩⟩
theorem Ext.cell {W : World} (p : Ext W) (b o : Nat) (h : b < W.heap.size) : p.1.cell? ⟨b, o, none⟩ = W.cell? ⟨b, o, none⟩ := p.2.cell (p := ⟨b, o, none⟩) h
theorem wp_region_class {P : Program} {id : Nat} {Q : Exit → Act → World → Prop} {a : Act} {W : World} {l : List Oper} (hm : P.follows .mixedOrders = true) (hB : Region.lexB .any l.toArray = true)
    (h : wpQuiet P l.toArray (fun w => ∃ p : Ext W, w = p.1) (fun a' => ∀ w', (∃ p : Ext W, w' = p.1) → Q .normal a' w') l a) : (Code.region id l.toArray true).wp P Q a W :=
  wp_region_quiet (C := fun w => ∃ p : Ext W, w = p.1) hm hB ⟨⟨W.drew, (Below.refl _ _).drew⟩, rfl⟩ (by simpa using h)
theorem Calls.ext {P : Program} {f : FuncId} {args : Array Value} {W : World} {p : Ext W} {v : Value} (h : Calls P f args p.1 fun e w' => e = .returned v ∧ Below p.1.heap.size p.1 w') :
    Calls P f args p.1 fun e w'' => e = .returned v ∧ ∃ q : Ext W, w'' = q.1 :=
  h.mono fun _ w' ⟨he, hb⟩ => ⟨he, ⟨w', p.2.trans (hb.mono p.2.size)⟩, rfl⟩
end Go.Proofs.Ytmoaecicibjmnaa
