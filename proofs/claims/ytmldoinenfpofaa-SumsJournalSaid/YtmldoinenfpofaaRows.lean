/-
  No cell of these rows narrows 'for every input' (looked for: loops, veiled, ifaces, maps, wideKeys, modest, calm, conditions, laid).
  DERIVED. THE GIVEN ROWS OF THIS SEAT. 7 by the template 'for every input the law returns true; each argument reads behind the call as it read before'; 0 by the template 'total and deterministic' (their statements: YtmldoinenfpofaaTotals.lean).
  GIVEN WITH THE SEED: the statements are not yours to turn. If you find one false, say at which input.
  Laid BY PROGRAM, IN A SANDBOX (cutbox-rows.mjs): the forced cells as the released guide's own fill.sh prints them over the translation 3cce1bac9cc75893… (all of the seat's roots in one cut). By AI agents, Wed Nov 11 2026. No macro, syntax, notation, axiom, sorry.
-/
import Derived.Test.YtmldoinenfpofaaChecked
import GoSem.Claim
import GoSem.ClaimJoined
import GoSem.ClaimMapViews
import Derived.JoinedTies
import Derived.KernelRfl
namespace Go.Proofs.Ytmldoinenfpofaa
/- THE CELL 'sum', in the pinned program and in every row, IS THE sha256 OF THE DUMP (.gsa) THAT YtmldoinenfpofaaProg.lean LOADS. Nothing in Lean hashes anything: it is a label: what it is worth is what the hold of that sum in a sandbox is worth. -/
noncomputable def Try.pinned : Pinned := { name := "ytmldoinenfpofaa", sum := "3cce1bac9cc758937d230f78232c4b605af04badd192322b707d5dc7b5757531", checked := Try.checked }
namespace Rows
def none {H : Type} : Left H := { results := [], args := [] }

/-- 'inkhornlaw03.SumsWeigh': WHATEVER THE INPUT: true; the input reads as it did. -/
def sumsWeighSpec : ChangeSpec := { name := "sumsWeigh", fn := fun _ => fun
  | [d1, d2] => { results := [.lit (.bool true)], args := [d1, d2] }
  | _ => none }
def sumsWeighRow : OpenClaim := { program := "ytmldoinenfpofaa", sum := "3cce1bac9cc758937d230f78232c4b605af04badd192322b707d5dc7b5757531", func := "inkhorn/inkhornlaw03.SumsWeigh", spec := "sumsWeigh", unfollowed := true, recurses := true, apart := false }
def SumsWeighSaid : Prop := sumsWeighRow.holds Try.pinned (OpenSpec.ofChange sumsWeighSpec)

/-- ITS FALSE NEIGHBOUR: 'it returns false'. Refute it at one input. -/
def sumsWeighWrong : ChangeSpec := { name := "sumsWeigh", fn := fun _ => fun
  | [d1, d2] => { results := [.lit (.bool false)], args := [d1, d2] }
  | _ => none }
def SumsWeighWrongFalsely : Prop := sumsWeighRow.holds Try.pinned (OpenSpec.ofChange sumsWeighWrong)

/-- 'inkhornlaw03.SumsNumbers': WHATEVER THE INPUT: true; the input reads as it did. -/
def sumsNumbersSpec : ChangeSpec := { name := "sumsNumbers", fn := fun _ => fun
  | [d1, d2, d3] => { results := [.lit (.bool true)], args := [d1, d2, d3] }
  | _ => none }
def sumsNumbersRow : OpenClaim := { program := "ytmldoinenfpofaa", sum := "3cce1bac9cc758937d230f78232c4b605af04badd192322b707d5dc7b5757531", func := "inkhorn/inkhornlaw03.SumsNumbers", spec := "sumsNumbers", unfollowed := true, recurses := true, apart := false }
def SumsNumbersSaid : Prop := sumsNumbersRow.holds Try.pinned (OpenSpec.ofChange sumsNumbersSpec)

/-- ITS FALSE NEIGHBOUR: 'it returns false'. Refute it at one input. -/
def sumsNumbersWrong : ChangeSpec := { name := "sumsNumbers", fn := fun _ => fun
  | [d1, d2, d3] => { results := [.lit (.bool false)], args := [d1, d2, d3] }
  | _ => none }
def SumsNumbersWrongFalsely : Prop := sumsNumbersRow.holds Try.pinned (OpenSpec.ofChange sumsNumbersWrong)

/-- 'inkhornlaw03.SumsJournal': WHATEVER THE INPUT: true; the input reads as it did. -/
def sumsJournalSpec : ChangeSpec := { name := "sumsJournal", fn := fun _ => fun
  | [d] => { results := [.lit (.bool true)], args := [d] }
  | _ => none }
def sumsJournalRow : OpenClaim := { program := "ytmldoinenfpofaa", sum := "3cce1bac9cc758937d230f78232c4b605af04badd192322b707d5dc7b5757531", func := "inkhorn/inkhornlaw03.SumsJournal", spec := "sumsJournal", unfollowed := true, recurses := true, apart := false }
def SumsJournalSaid : Prop := sumsJournalRow.holds Try.pinned (OpenSpec.ofChange sumsJournalSpec)

/-- ITS FALSE NEIGHBOUR: 'it returns false'. Refute it at one input. -/
def sumsJournalWrong : ChangeSpec := { name := "sumsJournal", fn := fun _ => fun
  | [d] => { results := [.lit (.bool false)], args := [d] }
  | _ => none }
def SumsJournalWrongFalsely : Prop := sumsJournalRow.holds Try.pinned (OpenSpec.ofChange sumsJournalWrong)

/-- 'inkhornlaw03.SumsDiffer': WHATEVER THE INPUT: true; the input reads as it did. -/
def sumsDifferSpec : ChangeSpec := { name := "sumsDiffer", fn := fun _ => fun
  | [d1, d2, d3] => { results := [.lit (.bool true)], args := [d1, d2, d3] }
  | _ => none }
def sumsDifferRow : OpenClaim := { program := "ytmldoinenfpofaa", sum := "3cce1bac9cc758937d230f78232c4b605af04badd192322b707d5dc7b5757531", func := "inkhorn/inkhornlaw03.SumsDiffer", spec := "sumsDiffer", unfollowed := true, recurses := true, apart := false }
def SumsDifferSaid : Prop := sumsDifferRow.holds Try.pinned (OpenSpec.ofChange sumsDifferSpec)

/-- ITS FALSE NEIGHBOUR: 'it returns false'. Refute it at one input. -/
def sumsDifferWrong : ChangeSpec := { name := "sumsDiffer", fn := fun _ => fun
  | [d1, d2, d3] => { results := [.lit (.bool false)], args := [d1, d2, d3] }
  | _ => none }
def SumsDifferWrongFalsely : Prop := sumsDifferRow.holds Try.pinned (OpenSpec.ofChange sumsDifferWrong)

/-- 'inkhornlaw03.SumsNoughts': WHATEVER THE INPUT: true; the input reads as it did. -/
def sumsNoughtsSpec : ChangeSpec := { name := "sumsNoughts", fn := fun _ => fun
  | [d1, d2] => { results := [.lit (.bool true)], args := [d1, d2] }
  | _ => none }
def sumsNoughtsRow : OpenClaim := { program := "ytmldoinenfpofaa", sum := "3cce1bac9cc758937d230f78232c4b605af04badd192322b707d5dc7b5757531", func := "inkhorn/inkhornlaw03.SumsNoughts", spec := "sumsNoughts", unfollowed := true, recurses := true, apart := false }
def SumsNoughtsSaid : Prop := sumsNoughtsRow.holds Try.pinned (OpenSpec.ofChange sumsNoughtsSpec)

/-- ITS FALSE NEIGHBOUR: 'it returns false'. Refute it at one input. -/
def sumsNoughtsWrong : ChangeSpec := { name := "sumsNoughts", fn := fun _ => fun
  | [d1, d2] => { results := [.lit (.bool false)], args := [d1, d2] }
  | _ => none }
def SumsNoughtsWrongFalsely : Prop := sumsNoughtsRow.holds Try.pinned (OpenSpec.ofChange sumsNoughtsWrong)

/-- 'inkhornlaw03.SumsRound': WHATEVER THE INPUT: true; the input reads as it did. -/
def sumsRoundSpec : ChangeSpec := { name := "sumsRound", fn := fun _ => fun
  | [d1, d2, d3] => { results := [.lit (.bool true)], args := [d1, d2, d3] }
  | _ => none }
def sumsRoundRow : OpenClaim := { program := "ytmldoinenfpofaa", sum := "3cce1bac9cc758937d230f78232c4b605af04badd192322b707d5dc7b5757531", func := "inkhorn/inkhornlaw03.SumsRound", spec := "sumsRound", unfollowed := true, recurses := true, apart := false }
def SumsRoundSaid : Prop := sumsRoundRow.holds Try.pinned (OpenSpec.ofChange sumsRoundSpec)

/-- ITS FALSE NEIGHBOUR: 'it returns false'. Refute it at one input. -/
def sumsRoundWrong : ChangeSpec := { name := "sumsRound", fn := fun _ => fun
  | [d1, d2, d3] => { results := [.lit (.bool false)], args := [d1, d2, d3] }
  | _ => none }
def SumsRoundWrongFalsely : Prop := sumsRoundRow.holds Try.pinned (OpenSpec.ofChange sumsRoundWrong)

/-- 'inkhornlaw03.SumsRead': WHATEVER THE INPUT: true; the input reads as it did. -/
def sumsReadSpec : ChangeSpec := { name := "sumsRead", fn := fun _ => fun
  | [d] => { results := [.lit (.bool true)], args := [d] }
  | _ => none }
def sumsReadRow : OpenClaim := { program := "ytmldoinenfpofaa", sum := "3cce1bac9cc758937d230f78232c4b605af04badd192322b707d5dc7b5757531", func := "inkhorn/inkhornlaw03.SumsRead", spec := "sumsRead", unfollowed := true, recurses := true, apart := false }
def SumsReadSaid : Prop := sumsReadRow.holds Try.pinned (OpenSpec.ofChange sumsReadSpec)

/-- ITS FALSE NEIGHBOUR: 'it returns false'. Refute it at one input. -/
def sumsReadWrong : ChangeSpec := { name := "sumsRead", fn := fun _ => fun
  | [d] => { results := [.lit (.bool false)], args := [d] }
  | _ => none }
def SumsReadWrongFalsely : Prop := sumsReadRow.holds Try.pinned (OpenSpec.ofChange sumsReadWrong)

/- THE SECOND FORM. 'bulk': how many values and letters a reading holds, each counted each time it is reached (what is shared counts as often as it is met; a slice's spare places count too). A statement '..UptoSaid' is the law's where the arguments, and the package variables that the reading takes, are together of bulk at most 1048576: NARROWER than '..Said'. Prove '..Said' where nothing that the law and all that it calls make is longer than what came in: it says more and counts as full. Else prove '..UptoSaid'. A law counts once. -/
mutual
def uptoBulk {H : Type} : DataW H → Nat
  | .lit (.string bytes) => bytes.length + 1
  | .lit _ => 1
  | .nil => 1
  | .ptr d => uptoBulk d + 1
  | .slice elems spare => uptoBulkAll elems + uptoBulkAll spare + 1
  | .agg parts => uptoBulkAll parts + 1
  | .iface _ d => uptoBulk d + 1
  | .map entries => uptoBulkEntries entries + 1
  | .held _ => 1
def uptoBulkAll {H : Type} : List (DataW H) → Nat
  | [] => 0
  | d :: r => uptoBulk d + uptoBulkAll r
def uptoBulkEntries {H : Type} : List (Lit × DataW H) → Nat
  | [] => 0
  | x :: r => uptoBulkEntry x + uptoBulkEntries r
def uptoBulkEntry {H : Type} : Lit × DataW H → Nat
  | (.string bytes, d) => bytes.length + uptoBulk d + 1
  | (_, d) => uptoBulk d + 1
 end
def uptoSmall : (H : Type) → List (DataW H) → Bool := fun _ ds => decide (uptoBulkAll ds ≤ 1048576)
def OpenSpec.upto (s : _root_.Go.ChangeSpec) : _root_.Go.OpenSpec := { _root_.Go.OpenSpec.ofChange s with cond := some uptoSmall }

/-- 'inkhornlaw03.SumsWeigh', WHERE WHAT IT READS IS OF BULK AT MOST 1048576: true; the input reads as it did. -/
def sumsWeighUptoRow : OpenClaim := { program := "ytmldoinenfpofaa", sum := "3cce1bac9cc758937d230f78232c4b605af04badd192322b707d5dc7b5757531", func := "inkhorn/inkhornlaw03.SumsWeigh", spec := "sumsWeigh", unfollowed := true, recurses := true, apart := false, narrowed := true }
def SumsWeighUptoSaid : Prop := sumsWeighUptoRow.holds Try.pinned (OpenSpec.upto sumsWeighSpec)

/-- 'inkhornlaw03.SumsNumbers', WHERE WHAT IT READS IS OF BULK AT MOST 1048576: true; the input reads as it did. -/
def sumsNumbersUptoRow : OpenClaim := { program := "ytmldoinenfpofaa", sum := "3cce1bac9cc758937d230f78232c4b605af04badd192322b707d5dc7b5757531", func := "inkhorn/inkhornlaw03.SumsNumbers", spec := "sumsNumbers", unfollowed := true, recurses := true, apart := false, narrowed := true }
def SumsNumbersUptoSaid : Prop := sumsNumbersUptoRow.holds Try.pinned (OpenSpec.upto sumsNumbersSpec)

/-- 'inkhornlaw03.SumsJournal', WHERE WHAT IT READS IS OF BULK AT MOST 1048576: true; the input reads as it did. -/
def sumsJournalUptoRow : OpenClaim := { program := "ytmldoinenfpofaa", sum := "3cce1bac9cc758937d230f78232c4b605af04badd192322b707d5dc7b5757531", func := "inkhorn/inkhornlaw03.SumsJournal", spec := "sumsJournal", unfollowed := true, recurses := true, apart := false, narrowed := true }
def SumsJournalUptoSaid : Prop := sumsJournalUptoRow.holds Try.pinned (OpenSpec.upto sumsJournalSpec)

/-- 'inkhornlaw03.SumsDiffer', WHERE WHAT IT READS IS OF BULK AT MOST 1048576: true; the input reads as it did. -/
def sumsDifferUptoRow : OpenClaim := { program := "ytmldoinenfpofaa", sum := "3cce1bac9cc758937d230f78232c4b605af04badd192322b707d5dc7b5757531", func := "inkhorn/inkhornlaw03.SumsDiffer", spec := "sumsDiffer", unfollowed := true, recurses := true, apart := false, narrowed := true }
def SumsDifferUptoSaid : Prop := sumsDifferUptoRow.holds Try.pinned (OpenSpec.upto sumsDifferSpec)

/-- 'inkhornlaw03.SumsNoughts', WHERE WHAT IT READS IS OF BULK AT MOST 1048576: true; the input reads as it did. -/
def sumsNoughtsUptoRow : OpenClaim := { program := "ytmldoinenfpofaa", sum := "3cce1bac9cc758937d230f78232c4b605af04badd192322b707d5dc7b5757531", func := "inkhorn/inkhornlaw03.SumsNoughts", spec := "sumsNoughts", unfollowed := true, recurses := true, apart := false, narrowed := true }
def SumsNoughtsUptoSaid : Prop := sumsNoughtsUptoRow.holds Try.pinned (OpenSpec.upto sumsNoughtsSpec)

/-- 'inkhornlaw03.SumsRound', WHERE WHAT IT READS IS OF BULK AT MOST 1048576: true; the input reads as it did. -/
def sumsRoundUptoRow : OpenClaim := { program := "ytmldoinenfpofaa", sum := "3cce1bac9cc758937d230f78232c4b605af04badd192322b707d5dc7b5757531", func := "inkhorn/inkhornlaw03.SumsRound", spec := "sumsRound", unfollowed := true, recurses := true, apart := false, narrowed := true }
def SumsRoundUptoSaid : Prop := sumsRoundUptoRow.holds Try.pinned (OpenSpec.upto sumsRoundSpec)

/-- 'inkhornlaw03.SumsRead', WHERE WHAT IT READS IS OF BULK AT MOST 1048576: true; the input reads as it did. -/
def sumsReadUptoRow : OpenClaim := { program := "ytmldoinenfpofaa", sum := "3cce1bac9cc758937d230f78232c4b605af04badd192322b707d5dc7b5757531", func := "inkhorn/inkhornlaw03.SumsRead", spec := "sumsRead", unfollowed := true, recurses := true, apart := false, narrowed := true }
def SumsReadUptoSaid : Prop := sumsReadUptoRow.holds Try.pinned (OpenSpec.upto sumsReadSpec)

end Rows
end Go.Proofs.Ytmldoinenfpofaa
