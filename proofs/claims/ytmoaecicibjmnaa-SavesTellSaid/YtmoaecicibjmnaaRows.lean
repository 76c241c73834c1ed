/-
  No cell of these rows narrows 'for every input' (looked for: loops, veiled, ifaces, maps, wideKeys, modest, calm, conditions, laid).
  DERIVED. THE GIVEN ROWS OF THIS SEAT. 11 by the template 'for every input the law returns true; each argument reads behind the call as it read before'; 0 by the template 'total and deterministic' (their statements: YtmoaecicibjmnaaTotals.lean).
  GIVEN WITH THE SEED: the statements are not yours to turn. If you find one false, say at which input.
  Laid BY PROGRAM, IN A SANDBOX (cutbox-rows.mjs): the forced cells as the released guide's own fill.sh prints them over the translation 54c0e5a3969cdabb… (all of the seat's roots in one cut). By AI agents, Wed Nov 11 2026. No macro, syntax, notation, axiom, sorry.
-/
import Derived.Test.YtmoaecicibjmnaaChecked
import GoSem.Claim
import GoSem.ClaimJoined
import GoSem.ClaimMapViews
import Derived.JoinedTies
import Derived.KernelRfl
namespace Go.Proofs.Ytmoaecicibjmnaa
/- THE CELL 'sum', in the pinned program and in every row, IS THE sha256 OF THE DUMP (.gsa) THAT YtmoaecicibjmnaaProg.lean LOADS. Nothing in Lean hashes anything: it is a label: what it is worth is what the hold of that sum in a sandbox is worth. -/
noncomputable def Try.pinned : Pinned := { name := "ytmoaecicibjmnaa", sum := "54c0e5a3969cdabbf7705be4fd7ff6e42eb5f205e28d837baaa7c3ca55859039", checked := Try.checked }
namespace Rows
def none {H : Type} : Left H := { results := [], args := [] }

/-- 'inkhornlaw05.FilesRoom': WHATEVER THE INPUT: true; the input reads as it did. -/
def filesRoomSpec : ChangeSpec := { name := "filesRoom", fn := fun _ => fun
  | [d1, d2] => { results := [.lit (.bool true)], args := [d1, d2] }
  | _ => none }
def filesRoomRow : OpenClaim := { program := "ytmoaecicibjmnaa", sum := "54c0e5a3969cdabbf7705be4fd7ff6e42eb5f205e28d837baaa7c3ca55859039", func := "inkhorn/inkhornlaw05.FilesRoom", spec := "filesRoom", inPlace := ["internal/bytealg.abigen_runtime_cmpstring", "slices.overlaps[inkhorn/files.file]"], unfollowed := true, recurses := true, apart := false }
def FilesRoomSaid : Prop := filesRoomRow.holds Try.pinned (OpenSpec.ofChange filesRoomSpec)

/-- ITS FALSE NEIGHBOUR: 'it returns false'. Refute it at one input. -/
def filesRoomWrong : ChangeSpec := { name := "filesRoom", fn := fun _ => fun
  | [d1, d2] => { results := [.lit (.bool false)], args := [d1, d2] }
  | _ => none }
def FilesRoomWrongFalsely : Prop := filesRoomRow.holds Try.pinned (OpenSpec.ofChange filesRoomWrong)

/-- 'inkhornlaw05.FilesOver': WHATEVER THE INPUT: true; the input reads as it did. -/
def filesOverSpec : ChangeSpec := { name := "filesOver", fn := fun _ => fun
  | [d1, d2, d3] => { results := [.lit (.bool true)], args := [d1, d2, d3] }
  | _ => none }
def filesOverRow : OpenClaim := { program := "ytmoaecicibjmnaa", sum := "54c0e5a3969cdabbf7705be4fd7ff6e42eb5f205e28d837baaa7c3ca55859039", func := "inkhorn/inkhornlaw05.FilesOver", spec := "filesOver", inPlace := ["internal/bytealg.abigen_runtime_cmpstring", "slices.overlaps[inkhorn/files.file]"], unfollowed := true, recurses := true, apart := false }
def FilesOverSaid : Prop := filesOverRow.holds Try.pinned (OpenSpec.ofChange filesOverSpec)

/-- ITS FALSE NEIGHBOUR: 'it returns false'. Refute it at one input. -/
def filesOverWrong : ChangeSpec := { name := "filesOver", fn := fun _ => fun
  | [d1, d2, d3] => { results := [.lit (.bool false)], args := [d1, d2, d3] }
  | _ => none }
def FilesOverWrongFalsely : Prop := filesOverRow.holds Try.pinned (OpenSpec.ofChange filesOverWrong)

/-- 'inkhornlaw05.FilesTell': WHATEVER THE INPUT: true; the input reads as it did. -/
def filesTellSpec : ChangeSpec := { name := "filesTell", fn := fun _ => fun
  | [d1, d2] => { results := [.lit (.bool true)], args := [d1, d2] }
  | _ => none }
def filesTellRow : OpenClaim := { program := "ytmoaecicibjmnaa", sum := "54c0e5a3969cdabbf7705be4fd7ff6e42eb5f205e28d837baaa7c3ca55859039", func := "inkhorn/inkhornlaw05.FilesTell", spec := "filesTell", inPlace := ["internal/bytealg.abigen_runtime_cmpstring", "slices.overlaps[inkhorn/files.file]"], unfollowed := true, recurses := true, apart := false }
def FilesTellSaid : Prop := filesTellRow.holds Try.pinned (OpenSpec.ofChange filesTellSpec)

/-- ITS FALSE NEIGHBOUR: 'it returns false'. Refute it at one input. -/
def filesTellWrong : ChangeSpec := { name := "filesTell", fn := fun _ => fun
  | [d1, d2] => { results := [.lit (.bool false)], args := [d1, d2] }
  | _ => none }
def FilesTellWrongFalsely : Prop := filesTellRow.holds Try.pinned (OpenSpec.ofChange filesTellWrong)

/-- 'inkhornlaw05.FilesNone': WHATEVER THE INPUT: true; the input reads as it did. -/
def filesNoneSpec : ChangeSpec := { name := "filesNone", fn := fun _ => fun
  | [d] => { results := [.lit (.bool true)], args := [d] }
  | _ => none }
def filesNoneRow : OpenClaim := { program := "ytmoaecicibjmnaa", sum := "54c0e5a3969cdabbf7705be4fd7ff6e42eb5f205e28d837baaa7c3ca55859039", func := "inkhorn/inkhornlaw05.FilesNone", spec := "filesNone", inPlace := ["internal/bytealg.abigen_runtime_cmpstring", "slices.overlaps[inkhorn/files.file]"], unfollowed := true, recurses := true, apart := false }
def FilesNoneSaid : Prop := filesNoneRow.holds Try.pinned (OpenSpec.ofChange filesNoneSpec)

/-- ITS FALSE NEIGHBOUR: 'it returns false'. Refute it at one input. -/
def filesNoneWrong : ChangeSpec := { name := "filesNone", fn := fun _ => fun
  | [d] => { results := [.lit (.bool false)], args := [d] }
  | _ => none }
def FilesNoneWrongFalsely : Prop := filesNoneRow.holds Try.pinned (OpenSpec.ofChange filesNoneWrong)

/-- 'inkhornlaw05.FilesKeep': WHATEVER THE INPUT: true; the input reads as it did. -/
def filesKeepSpec : ChangeSpec := { name := "filesKeep", fn := fun _ => fun
  | [d1, d2, d3] => { results := [.lit (.bool true)], args := [d1, d2, d3] }
  | _ => none }
def filesKeepRow : OpenClaim := { program := "ytmoaecicibjmnaa", sum := "54c0e5a3969cdabbf7705be4fd7ff6e42eb5f205e28d837baaa7c3ca55859039", func := "inkhorn/inkhornlaw05.FilesKeep", spec := "filesKeep", inPlace := ["internal/bytealg.abigen_runtime_cmpstring", "slices.overlaps[inkhorn/files.file]"], unfollowed := true, recurses := true, apart := false }
def FilesKeepSaid : Prop := filesKeepRow.holds Try.pinned (OpenSpec.ofChange filesKeepSpec)

/-- ITS FALSE NEIGHBOUR: 'it returns false'. Refute it at one input. -/
def filesKeepWrong : ChangeSpec := { name := "filesKeep", fn := fun _ => fun
  | [d1, d2, d3] => { results := [.lit (.bool false)], args := [d1, d2, d3] }
  | _ => none }
def FilesKeepWrongFalsely : Prop := filesKeepRow.holds Try.pinned (OpenSpec.ofChange filesKeepWrong)

/-- 'inkhornlaw05.FilesFail': WHATEVER THE INPUT: true; the input reads as it did. -/
def filesFailSpec : ChangeSpec := { name := "filesFail", fn := fun _ => fun
  | [d1, d2, d3] => { results := [.lit (.bool true)], args := [d1, d2, d3] }
  | _ => none }
def filesFailRow : OpenClaim := { program := "ytmoaecicibjmnaa", sum := "54c0e5a3969cdabbf7705be4fd7ff6e42eb5f205e28d837baaa7c3ca55859039", func := "inkhorn/inkhornlaw05.FilesFail", spec := "filesFail", inPlace := ["internal/bytealg.abigen_runtime_cmpstring", "slices.overlaps[inkhorn/files.file]"], unfollowed := true, recurses := true, apart := false }
def FilesFailSaid : Prop := filesFailRow.holds Try.pinned (OpenSpec.ofChange filesFailSpec)

/-- ITS FALSE NEIGHBOUR: 'it returns false'. Refute it at one input. -/
def filesFailWrong : ChangeSpec := { name := "filesFail", fn := fun _ => fun
  | [d1, d2, d3] => { results := [.lit (.bool false)], args := [d1, d2, d3] }
  | _ => none }
def FilesFailWrongFalsely : Prop := filesFailRow.holds Try.pinned (OpenSpec.ofChange filesFailWrong)

/-- 'inkhornlaw06.SavesNone': WHATEVER THE INPUT: true; the input reads as it did. -/
def savesNoneSpec : ChangeSpec := { name := "savesNone", fn := fun _ => fun
  | [d1, d2] => { results := [.lit (.bool true)], args := [d1, d2] }
  | _ => none }
def savesNoneRow : OpenClaim := { program := "ytmoaecicibjmnaa", sum := "54c0e5a3969cdabbf7705be4fd7ff6e42eb5f205e28d837baaa7c3ca55859039", func := "inkhorn/inkhornlaw06.SavesNone", spec := "savesNone", inPlace := ["internal/bytealg.abigen_runtime_cmpstring", "slices.overlaps[inkhorn/files.file]"], unfollowed := true, recurses := true, apart := false }
def SavesNoneSaid : Prop := savesNoneRow.holds Try.pinned (OpenSpec.ofChange savesNoneSpec)

/-- ITS FALSE NEIGHBOUR: 'it returns false'. Refute it at one input. -/
def savesNoneWrong : ChangeSpec := { name := "savesNone", fn := fun _ => fun
  | [d1, d2] => { results := [.lit (.bool false)], args := [d1, d2] }
  | _ => none }
def SavesNoneWrongFalsely : Prop := savesNoneRow.holds Try.pinned (OpenSpec.ofChange savesNoneWrong)

/-- 'inkhornlaw06.SavesBack': WHATEVER THE INPUT: true; the input reads as it did. -/
def savesBackSpec : ChangeSpec := { name := "savesBack", fn := fun _ => fun
  | [d1, d2, d3] => { results := [.lit (.bool true)], args := [d1, d2, d3] }
  | _ => none }
def savesBackRow : OpenClaim := { program := "ytmoaecicibjmnaa", sum := "54c0e5a3969cdabbf7705be4fd7ff6e42eb5f205e28d837baaa7c3ca55859039", func := "inkhorn/inkhornlaw06.SavesBack", spec := "savesBack", inPlace := ["internal/bytealg.abigen_runtime_cmpstring", "slices.overlaps[inkhorn/files.file]"], unfollowed := true, recurses := true, apart := false }
def SavesBackSaid : Prop := savesBackRow.holds Try.pinned (OpenSpec.ofChange savesBackSpec)

/-- ITS FALSE NEIGHBOUR: 'it returns false'. Refute it at one input. -/
def savesBackWrong : ChangeSpec := { name := "savesBack", fn := fun _ => fun
  | [d1, d2, d3] => { results := [.lit (.bool false)], args := [d1, d2, d3] }
  | _ => none }
def SavesBackWrongFalsely : Prop := savesBackRow.holds Try.pinned (OpenSpec.ofChange savesBackWrong)

/-- 'inkhornlaw06.SavesClean': WHATEVER THE INPUT: true; the input reads as it did. -/
def savesCleanSpec : ChangeSpec := { name := "savesClean", fn := fun _ => fun
  | [d1, d2, d3] => { results := [.lit (.bool true)], args := [d1, d2, d3] }
  | _ => none }
def savesCleanRow : OpenClaim := { program := "ytmoaecicibjmnaa", sum := "54c0e5a3969cdabbf7705be4fd7ff6e42eb5f205e28d837baaa7c3ca55859039", func := "inkhorn/inkhornlaw06.SavesClean", spec := "savesClean", inPlace := ["internal/bytealg.abigen_runtime_cmpstring", "slices.overlaps[inkhorn/files.file]"], unfollowed := true, recurses := true, apart := false }
def SavesCleanSaid : Prop := savesCleanRow.holds Try.pinned (OpenSpec.ofChange savesCleanSpec)

/-- ITS FALSE NEIGHBOUR: 'it returns false'. Refute it at one input. -/
def savesCleanWrong : ChangeSpec := { name := "savesClean", fn := fun _ => fun
  | [d1, d2, d3] => { results := [.lit (.bool false)], args := [d1, d2, d3] }
  | _ => none }
def SavesCleanWrongFalsely : Prop := savesCleanRow.holds Try.pinned (OpenSpec.ofChange savesCleanWrong)

/-- 'inkhornlaw06.SavesWhole': WHATEVER THE INPUT: true; the input reads as it did. -/
def savesWholeSpec : ChangeSpec := { name := "savesWhole", fn := fun _ => fun
  | [d1, d2, d3] => { results := [.lit (.bool true)], args := [d1, d2, d3] }
  | _ => none }
def savesWholeRow : OpenClaim := { program := "ytmoaecicibjmnaa", sum := "54c0e5a3969cdabbf7705be4fd7ff6e42eb5f205e28d837baaa7c3ca55859039", func := "inkhorn/inkhornlaw06.SavesWhole", spec := "savesWhole", inPlace := ["internal/bytealg.abigen_runtime_cmpstring", "slices.overlaps[inkhorn/files.file]"], unfollowed := true, recurses := true, apart := false }
def SavesWholeSaid : Prop := savesWholeRow.holds Try.pinned (OpenSpec.ofChange savesWholeSpec)

/-- ITS FALSE NEIGHBOUR: 'it returns false'. Refute it at one input. -/
def savesWholeWrong : ChangeSpec := { name := "savesWhole", fn := fun _ => fun
  | [d1, d2, d3] => { results := [.lit (.bool false)], args := [d1, d2, d3] }
  | _ => none }
def SavesWholeWrongFalsely : Prop := savesWholeRow.holds Try.pinned (OpenSpec.ofChange savesWholeWrong)

/-- 'inkhornlaw06.SavesTell': WHATEVER THE INPUT: true; the input reads as it did. -/
def savesTellSpec : ChangeSpec := { name := "savesTell", fn := fun _ => fun
  | [d1, d2, d3] => { results := [.lit (.bool true)], args := [d1, d2, d3] }
  | _ => none }
def savesTellRow : OpenClaim := { program := "ytmoaecicibjmnaa", sum := "54c0e5a3969cdabbf7705be4fd7ff6e42eb5f205e28d837baaa7c3ca55859039", func := "inkhorn/inkhornlaw06.SavesTell", spec := "savesTell", inPlace := ["internal/bytealg.abigen_runtime_cmpstring", "slices.overlaps[inkhorn/files.file]"], unfollowed := true, recurses := true, apart := false }
def SavesTellSaid : Prop := savesTellRow.holds Try.pinned (OpenSpec.ofChange savesTellSpec)

/-- ITS FALSE NEIGHBOUR: 'it returns false'. Refute it at one input. -/
def savesTellWrong : ChangeSpec := { name := "savesTell", fn := fun _ => fun
  | [d1, d2, d3] => { results := [.lit (.bool false)], args := [d1, d2, d3] }
  | _ => none }
def SavesTellWrongFalsely : Prop := savesTellRow.holds Try.pinned (OpenSpec.ofChange savesTellWrong)

/- THE SECOND FORM. 'bulk': how many values and letters a reading holds, each counted each time it is reached (what is shared counts as often as it is met; a slice's spare places count too). A statement '..UptoSaid' is the law's where the arguments, and the package variables that the reading takes, are together of bulk at most 1048576: NARROWER than '..Said'. Prove '..Said' where nothing that the law and all that it calls make is longer than what came in: it says more and counts as full. Else prove '..UptoSaid'. A law counts once. -/
mutual
def uptoBulk {H : Type} : DataW H → Nat
  | .lit (.string bytes) => bytes.length + 1
  | .lit _ => 1
  | .nil => 1
  | .ptr d => uptoBulk d + 1
  | .slice elems spare => uptoBulkAll elems + uptoBulkAll spare + 1
  | .agg parts => uptoBulkAll parts + 1
  | .iface _ d => uptoBulk d + 1
  | .map entries => uptoBulkEntries entries + 1
  | .held _ => 1
def uptoBulkAll {H : Type} : List (DataW H) → Nat
  | [] => 0
  | d :: r => uptoBulk d + uptoBulkAll r
def uptoBulkEntries {H : Type} : List (Lit × DataW H) → Nat
  | [] => 0
  | x :: r => uptoBulkEntry x + uptoBulkEntries r
def uptoBulkEntry {H : Type} : Lit × DataW H → Nat
  | (.string bytes, d) => bytes.length + uptoBulk d + 1
  | (_, d) => uptoBulk d + 1
 end
def uptoSmall : (H : Type) → List (DataW H) → Bool := fun _ ds => decide (uptoBulkAll ds ≤ 1048576)
def OpenSpec.upto (s : _root_.Go.ChangeSpec) : _root_.Go.OpenSpec := { _root_.Go.OpenSpec.ofChange s with cond := some uptoSmall }

/-- 'inkhornlaw05.FilesRoom', WHERE WHAT IT READS IS OF BULK AT MOST 1048576: true; the input reads as it did. -/
def filesRoomUptoRow : OpenClaim := { program := "ytmoaecicibjmnaa", sum := "54c0e5a3969cdabbf7705be4fd7ff6e42eb5f205e28d837baaa7c3ca55859039", func := "inkhorn/inkhornlaw05.FilesRoom", spec := "filesRoom", inPlace := ["internal/bytealg.abigen_runtime_cmpstring", "slices.overlaps[inkhorn/files.file]"], unfollowed := true, recurses := true, apart := false, narrowed := true }
def FilesRoomUptoSaid : Prop := filesRoomUptoRow.holds Try.pinned (OpenSpec.upto filesRoomSpec)

/-- 'inkhornlaw05.FilesOver', WHERE WHAT IT READS IS OF BULK AT MOST 1048576: true; the input reads as it did. -/
def filesOverUptoRow : OpenClaim := { program := "ytmoaecicibjmnaa", sum := "54c0e5a3969cdabbf7705be4fd7ff6e42eb5f205e28d837baaa7c3ca55859039", func := "inkhorn/inkhornlaw05.FilesOver", spec := "filesOver", inPlace := ["internal/bytealg.abigen_runtime_cmpstring", "slices.overlaps[inkhorn/files.file]"], unfollowed := true, recurses := true, apart := false, narrowed := true }
def FilesOverUptoSaid : Prop := filesOverUptoRow.holds Try.pinned (OpenSpec.upto filesOverSpec)

/-- 'inkhornlaw05.FilesTell', WHERE WHAT IT READS IS OF BULK AT MOST 1048576: true; the input reads as it did. -/
def filesTellUptoRow : OpenClaim := { program := "ytmoaecicibjmnaa", sum := "54c0e5a3969cdabbf7705be4fd7ff6e42eb5f205e28d837baaa7c3ca55859039", func := "inkhorn/inkhornlaw05.FilesTell", spec := "filesTell", inPlace := ["internal/bytealg.abigen_runtime_cmpstring", "slices.overlaps[inkhorn/files.file]"], unfollowed := true, recurses := true, apart := false, narrowed := true }
def FilesTellUptoSaid : Prop := filesTellUptoRow.holds Try.pinned (OpenSpec.upto filesTellSpec)

/-- 'inkhornlaw05.FilesNone', WHERE WHAT IT READS IS OF BULK AT MOST 1048576: true; the input reads as it did. -/
def filesNoneUptoRow : OpenClaim := { program := "ytmoaecicibjmnaa", sum := "54c0e5a3969cdabbf7705be4fd7ff6e42eb5f205e28d837baaa7c3ca55859039", func := "inkhorn/inkhornlaw05.FilesNone", spec := "filesNone", inPlace := ["internal/bytealg.abigen_runtime_cmpstring", "slices.overlaps[inkhorn/files.file]"], unfollowed := true, recurses := true, apart := false, narrowed := true }
def FilesNoneUptoSaid : Prop := filesNoneUptoRow.holds Try.pinned (OpenSpec.upto filesNoneSpec)

/-- 'inkhornlaw05.FilesKeep', WHERE WHAT IT READS IS OF BULK AT MOST 1048576: true; the input reads as it did. -/
def filesKeepUptoRow : OpenClaim := { program := "ytmoaecicibjmnaa", sum := "54c0e5a3969cdabbf7705be4fd7ff6e42eb5f205e28d837baaa7c3ca55859039", func := "inkhorn/inkhornlaw05.FilesKeep", spec := "filesKeep", inPlace := ["internal/bytealg.abigen_runtime_cmpstring", "slices.overlaps[inkhorn/files.file]"], unfollowed := true, recurses := true, apart := false, narrowed := true }
def FilesKeepUptoSaid : Prop := filesKeepUptoRow.holds Try.pinned (OpenSpec.upto filesKeepSpec)

/-- 'inkhornlaw05.FilesFail', WHERE WHAT IT READS IS OF BULK AT MOST 1048576: true; the input reads as it did. -/
def filesFailUptoRow : OpenClaim := { program := "ytmoaecicibjmnaa", sum := "54c0e5a3969cdabbf7705be4fd7ff6e42eb5f205e28d837baaa7c3ca55859039", func := "inkhorn/inkhornlaw05.FilesFail", spec := "filesFail", inPlace := ["internal/bytealg.abigen_runtime_cmpstring", "slices.overlaps[inkhorn/files.file]"], unfollowed := true, recurses := true, apart := false, narrowed := true }
def FilesFailUptoSaid : Prop := filesFailUptoRow.holds Try.pinned (OpenSpec.upto filesFailSpec)

/-- 'inkhornlaw06.SavesNone', WHERE WHAT IT READS IS OF BULK AT MOST 1048576: true; the input reads as it did. -/
def savesNoneUptoRow : OpenClaim := { program := "ytmoaecicibjmnaa", sum := "54c0e5a3969cdabbf7705be4fd7ff6e42eb5f205e28d837baaa7c3ca55859039", func := "inkhorn/inkhornlaw06.SavesNone", spec := "savesNone", inPlace := ["internal/bytealg.abigen_runtime_cmpstring", "slices.overlaps[inkhorn/files.file]"], unfollowed := true, recurses := true, apart := false, narrowed := true }
def SavesNoneUptoSaid : Prop := savesNoneUptoRow.holds Try.pinned (OpenSpec.upto savesNoneSpec)

/-- 'inkhornlaw06.SavesBack', WHERE WHAT IT READS IS OF BULK AT MOST 1048576: true; the input reads as it did. -/
def savesBackUptoRow : OpenClaim := { program := "ytmoaecicibjmnaa", sum := "54c0e5a3969cdabbf7705be4fd7ff6e42eb5f205e28d837baaa7c3ca55859039", func := "inkhorn/inkhornlaw06.SavesBack", spec := "savesBack", inPlace := ["internal/bytealg.abigen_runtime_cmpstring", "slices.overlaps[inkhorn/files.file]"], unfollowed := true, recurses := true, apart := false, narrowed := true }
def SavesBackUptoSaid : Prop := savesBackUptoRow.holds Try.pinned (OpenSpec.upto savesBackSpec)

/-- 'inkhornlaw06.SavesClean', WHERE WHAT IT READS IS OF BULK AT MOST 1048576: true; the input reads as it did. -/
def savesCleanUptoRow : OpenClaim := { program := "ytmoaecicibjmnaa", sum := "54c0e5a3969cdabbf7705be4fd7ff6e42eb5f205e28d837baaa7c3ca55859039", func := "inkhorn/inkhornlaw06.SavesClean", spec := "savesClean", inPlace := ["internal/bytealg.abigen_runtime_cmpstring", "slices.overlaps[inkhorn/files.file]"], unfollowed := true, recurses := true, apart := false, narrowed := true }
def SavesCleanUptoSaid : Prop := savesCleanUptoRow.holds Try.pinned (OpenSpec.upto savesCleanSpec)

/-- 'inkhornlaw06.SavesWhole', WHERE WHAT IT READS IS OF BULK AT MOST 1048576: true; the input reads as it did. -/
def savesWholeUptoRow : OpenClaim := { program := "ytmoaecicibjmnaa", sum := "54c0e5a3969cdabbf7705be4fd7ff6e42eb5f205e28d837baaa7c3ca55859039", func := "inkhorn/inkhornlaw06.SavesWhole", spec := "savesWhole", inPlace := ["internal/bytealg.abigen_runtime_cmpstring", "slices.overlaps[inkhorn/files.file]"], unfollowed := true, recurses := true, apart := false, narrowed := true }
def SavesWholeUptoSaid : Prop := savesWholeUptoRow.holds Try.pinned (OpenSpec.upto savesWholeSpec)

/-- 'inkhornlaw06.SavesTell', WHERE WHAT IT READS IS OF BULK AT MOST 1048576: true; the input reads as it did. -/
def savesTellUptoRow : OpenClaim := { program := "ytmoaecicibjmnaa", sum := "54c0e5a3969cdabbf7705be4fd7ff6e42eb5f205e28d837baaa7c3ca55859039", func := "inkhorn/inkhornlaw06.SavesTell", spec := "savesTell", inPlace := ["internal/bytealg.abigen_runtime_cmpstring", "slices.overlaps[inkhorn/files.file]"], unfollowed := true, recurses := true, apart := false, narrowed := true }
def SavesTellUptoSaid : Prop := savesTellUptoRow.holds Try.pinned (OpenSpec.upto savesTellSpec)

end Rows
end Go.Proofs.Ytmoaecicibjmnaa
