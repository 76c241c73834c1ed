/-
  No cell of these rows narrows 'for every input' (looked for: loops, veiled, ifaces, maps, wideKeys, modest, calm, conditions, laid).
  DERIVED. THE GIVEN ROWS OF THIS SEAT. 6 by the template 'for every input the law returns true; each argument reads behind the call as it read before'; 0 by the template 'total and deterministic' (their statements: YtnpdpfkoghhioaaTotals.lean).
  GIVEN WITH THE SEED: the statements are not yours to turn. If you find one false, say at which input.
  Laid BY PROGRAM, IN A SANDBOX (cutbox-rows.mjs): the forced cells as the released guide's own fill.sh prints them over the translation 638c7284421edf6f… (all of the seat's roots in one cut). By AI agents, Wed Nov 11 2026. No macro, syntax, notation, axiom, sorry.
-/
import Derived.Test.YtnpdpfkoghhioaaChecked
import GoSem.Claim
import GoSem.ClaimJoined
import GoSem.ClaimMapViews
import Derived.JoinedTies
import Derived.KernelRfl
namespace Go.Proofs.Ytnpdpfkoghhioaa
/- THE CELL 'sum', in the pinned program and in every row, IS THE sha256 OF THE DUMP (.gsa) THAT YtnpdpfkoghhioaaProg.lean LOADS. Nothing in Lean hashes anything: it is a label: what it is worth is what the hold of that sum in a sandbox is worth. -/
noncomputable def Try.pinned : Pinned := { name := "ytnpdpfkoghhioaa", sum := "638c7284421edf6f9e56f60c0ccd241e682afe3d3df530e01390cbf8a48ff2b9", checked := Try.checked }
namespace Rows
def none {H : Type} : Left H := { results := [], args := [] }

/-- 'inkhornlaw12.GridsNew': WHATEVER THE INPUT: true; the input reads as it did. -/
def gridsNewSpec : ChangeSpec := { name := "gridsNew", fn := fun _ => fun
  | [d1, d2] => { results := [.lit (.bool true)], args := [d1, d2] }
  | _ => none }
def gridsNewRow : OpenClaim := { program := "ytnpdpfkoghhioaa", sum := "638c7284421edf6f9e56f60c0ccd241e682afe3d3df530e01390cbf8a48ff2b9", func := "inkhorn/inkhornlaw12.GridsNew", spec := "gridsNew", inPlace := ["internal/bytealg.MakeNoZero"], unfollowed := true, recurses := true, apart := false }
def GridsNewSaid : Prop := gridsNewRow.holds Try.pinned (OpenSpec.ofChange gridsNewSpec)

/-- ITS FALSE NEIGHBOUR: 'it returns false'. Refute it at one input. -/
def gridsNewWrong : ChangeSpec := { name := "gridsNew", fn := fun _ => fun
  | [d1, d2] => { results := [.lit (.bool false)], args := [d1, d2] }
  | _ => none }
def GridsNewWrongFalsely : Prop := gridsNewRow.holds Try.pinned (OpenSpec.ofChange gridsNewWrong)

/-- 'inkhornlaw12.GridsTell': WHATEVER THE INPUT: true; the input reads as it did. -/
def gridsTellSpec : ChangeSpec := { name := "gridsTell", fn := fun _ => fun
  | [d1, d2, d3] => { results := [.lit (.bool true)], args := [d1, d2, d3] }
  | _ => none }
def gridsTellRow : OpenClaim := { program := "ytnpdpfkoghhioaa", sum := "638c7284421edf6f9e56f60c0ccd241e682afe3d3df530e01390cbf8a48ff2b9", func := "inkhorn/inkhornlaw12.GridsTell", spec := "gridsTell", inPlace := ["internal/bytealg.MakeNoZero"], unfollowed := true, recurses := true, apart := false }
def GridsTellSaid : Prop := gridsTellRow.holds Try.pinned (OpenSpec.ofChange gridsTellSpec)

/-- ITS FALSE NEIGHBOUR: 'it returns false'. Refute it at one input. -/
def gridsTellWrong : ChangeSpec := { name := "gridsTell", fn := fun _ => fun
  | [d1, d2, d3] => { results := [.lit (.bool false)], args := [d1, d2, d3] }
  | _ => none }
def GridsTellWrongFalsely : Prop := gridsTellRow.holds Try.pinned (OpenSpec.ofChange gridsTellWrong)

/-- 'inkhornlaw12.GridsSame': WHATEVER THE INPUT: true; the input reads as it did. -/
def gridsSameSpec : ChangeSpec := { name := "gridsSame", fn := fun _ => fun
  | [d1, d2] => { results := [.lit (.bool true)], args := [d1, d2] }
  | _ => none }
def gridsSameRow : OpenClaim := { program := "ytnpdpfkoghhioaa", sum := "638c7284421edf6f9e56f60c0ccd241e682afe3d3df530e01390cbf8a48ff2b9", func := "inkhorn/inkhornlaw12.GridsSame", spec := "gridsSame", inPlace := ["internal/bytealg.MakeNoZero"], unfollowed := true, recurses := true, apart := false }
def GridsSameSaid : Prop := gridsSameRow.holds Try.pinned (OpenSpec.ofChange gridsSameSpec)

/-- ITS FALSE NEIGHBOUR: 'it returns false'. Refute it at one input. -/
def gridsSameWrong : ChangeSpec := { name := "gridsSame", fn := fun _ => fun
  | [d1, d2] => { results := [.lit (.bool false)], args := [d1, d2] }
  | _ => none }
def GridsSameWrongFalsely : Prop := gridsSameRow.holds Try.pinned (OpenSpec.ofChange gridsSameWrong)

/-- 'inkhornlaw12.GridsPuts': WHATEVER THE INPUT: true; the input reads as it did. -/
def gridsPutsSpec : ChangeSpec := { name := "gridsPuts", fn := fun _ => fun
  | [d1, d2, d3] => { results := [.lit (.bool true)], args := [d1, d2, d3] }
  | _ => none }
def gridsPutsRow : OpenClaim := { program := "ytnpdpfkoghhioaa", sum := "638c7284421edf6f9e56f60c0ccd241e682afe3d3df530e01390cbf8a48ff2b9", func := "inkhorn/inkhornlaw12.GridsPuts", spec := "gridsPuts", inPlace := ["internal/bytealg.MakeNoZero"], unfollowed := true, recurses := true, apart := false }
def GridsPutsSaid : Prop := gridsPutsRow.holds Try.pinned (OpenSpec.ofChange gridsPutsSpec)

/-- ITS FALSE NEIGHBOUR: 'it returns false'. Refute it at one input. -/
def gridsPutsWrong : ChangeSpec := { name := "gridsPuts", fn := fun _ => fun
  | [d1, d2, d3] => { results := [.lit (.bool false)], args := [d1, d2, d3] }
  | _ => none }
def GridsPutsWrongFalsely : Prop := gridsPutsRow.holds Try.pinned (OpenSpec.ofChange gridsPutsWrong)

/-- 'inkhornlaw12.GridsTwo': WHATEVER THE INPUT: true; the input reads as it did. -/
def gridsTwoSpec : ChangeSpec := { name := "gridsTwo", fn := fun _ => fun
  | [d1, d2, d3] => { results := [.lit (.bool true)], args := [d1, d2, d3] }
  | _ => none }
def gridsTwoRow : OpenClaim := { program := "ytnpdpfkoghhioaa", sum := "638c7284421edf6f9e56f60c0ccd241e682afe3d3df530e01390cbf8a48ff2b9", func := "inkhorn/inkhornlaw12.GridsTwo", spec := "gridsTwo", inPlace := ["internal/bytealg.MakeNoZero"], unfollowed := true, recurses := true, apart := false }
def GridsTwoSaid : Prop := gridsTwoRow.holds Try.pinned (OpenSpec.ofChange gridsTwoSpec)

/-- ITS FALSE NEIGHBOUR: 'it returns false'. Refute it at one input. -/
def gridsTwoWrong : ChangeSpec := { name := "gridsTwo", fn := fun _ => fun
  | [d1, d2, d3] => { results := [.lit (.bool false)], args := [d1, d2, d3] }
  | _ => none }
def GridsTwoWrongFalsely : Prop := gridsTwoRow.holds Try.pinned (OpenSpec.ofChange gridsTwoWrong)

/-- 'inkhornlaw12.GridsMay': WHATEVER THE INPUT: true; the input reads as it did. -/
def gridsMaySpec : ChangeSpec := { name := "gridsMay", fn := fun _ => fun
  | [d1, d2, d3] => { results := [.lit (.bool true)], args := [d1, d2, d3] }
  | _ => none }
def gridsMayRow : OpenClaim := { program := "ytnpdpfkoghhioaa", sum := "638c7284421edf6f9e56f60c0ccd241e682afe3d3df530e01390cbf8a48ff2b9", func := "inkhorn/inkhornlaw12.GridsMay", spec := "gridsMay", inPlace := ["internal/bytealg.MakeNoZero"], unfollowed := true, recurses := true, apart := false }
def GridsMaySaid : Prop := gridsMayRow.holds Try.pinned (OpenSpec.ofChange gridsMaySpec)

/-- ITS FALSE NEIGHBOUR: 'it returns false'. Refute it at one input. -/
def gridsMayWrong : ChangeSpec := { name := "gridsMay", fn := fun _ => fun
  | [d1, d2, d3] => { results := [.lit (.bool false)], args := [d1, d2, d3] }
  | _ => none }
def GridsMayWrongFalsely : Prop := gridsMayRow.holds Try.pinned (OpenSpec.ofChange gridsMayWrong)

/- THE SECOND FORM. 'bulk': how many values and letters a reading holds, each counted each time it is reached (what is shared counts as often as it is met; a slice's spare places count too). A statement '..UptoSaid' is the law's where the arguments, and the package variables that the reading takes, are together of bulk at most 1048576: NARROWER than '..Said'. Prove '..Said' where nothing that the law and all that it calls make is longer than what came in: it says more and counts as full. Else prove '..UptoSaid'. A law counts once. -/
mutual
def uptoBulk {H : Type} : DataW H → Nat
  | .lit (.string bytes) => bytes.length + 1
  | .lit _ => 1
  | .nil => 1
  | .ptr d => uptoBulk d + 1
  | .slice elems spare => uptoBulkAll elems + uptoBulkAll spare + 1
  | .agg parts => uptoBulkAll parts + 1
  | .iface _ d => uptoBulk d + 1
  | .map entries => uptoBulkEntries entries + 1
  | .held _ => 1
def uptoBulkAll {H : Type} : List (DataW H) → Nat
  | [] => 0
  | d :: r => uptoBulk d + uptoBulkAll r
def uptoBulkEntries {H : Type} : List (Lit × DataW H) → Nat
  | [] => 0
  | x :: r => uptoBulkEntry x + uptoBulkEntries r
def uptoBulkEntry {H : Type} : Lit × DataW H → Nat
  | (.string bytes, d) => bytes.length + uptoBulk d + 1
  | (_, d) => uptoBulk d + 1
 end
def uptoSmall : (H : Type) → List (DataW H) → Bool := fun _ ds => decide (uptoBulkAll ds ≤ 1048576)
def OpenSpec.upto (s : _root_.Go.ChangeSpec) : _root_.Go.OpenSpec := { _root_.Go.OpenSpec.ofChange s with cond := some uptoSmall }

/-- 'inkhornlaw12.GridsNew', WHERE WHAT IT READS IS OF BULK AT MOST 1048576: true; the input reads as it did. -/
def gridsNewUptoRow : OpenClaim := { program := "ytnpdpfkoghhioaa", sum := "638c7284421edf6f9e56f60c0ccd241e682afe3d3df530e01390cbf8a48ff2b9", func := "inkhorn/inkhornlaw12.GridsNew", spec := "gridsNew", inPlace := ["internal/bytealg.MakeNoZero"], unfollowed := true, recurses := true, apart := false, narrowed := true }
def GridsNewUptoSaid : Prop := gridsNewUptoRow.holds Try.pinned (OpenSpec.upto gridsNewSpec)

/-- 'inkhornlaw12.GridsTell', WHERE WHAT IT READS IS OF BULK AT MOST 1048576: true; the input reads as it did. -/
def gridsTellUptoRow : OpenClaim := { program := "ytnpdpfkoghhioaa", sum := "638c7284421edf6f9e56f60c0ccd241e682afe3d3df530e01390cbf8a48ff2b9", func := "inkhorn/inkhornlaw12.GridsTell", spec := "gridsTell", inPlace := ["internal/bytealg.MakeNoZero"], unfollowed := true, recurses := true, apart := false, narrowed := true }
def GridsTellUptoSaid : Prop := gridsTellUptoRow.holds Try.pinned (OpenSpec.upto gridsTellSpec)

/-- 'inkhornlaw12.GridsSame', WHERE WHAT IT READS IS OF BULK AT MOST 1048576: true; the input reads as it did. -/
def gridsSameUptoRow : OpenClaim := { program := "ytnpdpfkoghhioaa", sum := "638c7284421edf6f9e56f60c0ccd241e682afe3d3df530e01390cbf8a48ff2b9", func := "inkhorn/inkhornlaw12.GridsSame", spec := "gridsSame", inPlace := ["internal/bytealg.MakeNoZero"], unfollowed := true, recurses := true, apart := false, narrowed := true }
def GridsSameUptoSaid : Prop := gridsSameUptoRow.holds Try.pinned (OpenSpec.upto gridsSameSpec)

/-- 'inkhornlaw12.GridsPuts', WHERE WHAT IT READS IS OF BULK AT MOST 1048576: true; the input reads as it did. -/
def gridsPutsUptoRow : OpenClaim := { program := "ytnpdpfkoghhioaa", sum := "638c7284421edf6f9e56f60c0ccd241e682afe3d3df530e01390cbf8a48ff2b9", func := "inkhorn/inkhornlaw12.GridsPuts", spec := "gridsPuts", inPlace := ["internal/bytealg.MakeNoZero"], unfollowed := true, recurses := true, apart := false, narrowed := true }
def GridsPutsUptoSaid : Prop := gridsPutsUptoRow.holds Try.pinned (OpenSpec.upto gridsPutsSpec)

/-- 'inkhornlaw12.GridsTwo', WHERE WHAT IT READS IS OF BULK AT MOST 1048576: true; the input reads as it did. -/
def gridsTwoUptoRow : OpenClaim := { program := "ytnpdpfkoghhioaa", sum := "638c7284421edf6f9e56f60c0ccd241e682afe3d3df530e01390cbf8a48ff2b9", func := "inkhorn/inkhornlaw12.GridsTwo", spec := "gridsTwo", inPlace := ["internal/bytealg.MakeNoZero"], unfollowed := true, recurses := true, apart := false, narrowed := true }
def GridsTwoUptoSaid : Prop := gridsTwoUptoRow.holds Try.pinned (OpenSpec.upto gridsTwoSpec)

/-- 'inkhornlaw12.GridsMay', WHERE WHAT IT READS IS OF BULK AT MOST 1048576: true; the input reads as it did. -/
def gridsMayUptoRow : OpenClaim := { program := "ytnpdpfkoghhioaa", sum := "638c7284421edf6f9e56f60c0ccd241e682afe3d3df530e01390cbf8a48ff2b9", func := "inkhorn/inkhornlaw12.GridsMay", spec := "gridsMay", inPlace := ["internal/bytealg.MakeNoZero"], unfollowed := true, recurses := true, apart := false, narrowed := true }
def GridsMayUptoSaid : Prop := gridsMayUptoRow.holds Try.pinned (OpenSpec.upto gridsMaySpec)

end Rows
end Go.Proofs.Ytnpdpfkoghhioaa
