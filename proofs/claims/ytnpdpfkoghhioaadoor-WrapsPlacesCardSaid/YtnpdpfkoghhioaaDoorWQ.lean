/- The chapter's examples (does): the contracts at its literals. -/
import Derived.Test.YtnpdpfkoghhioaaDoorWP
namespace Go.Proofs.YtnpdpfkoghhioaaDoor
open Go.RowKit

def sAB : ByteArray := ⟨#[97, 9, 98]⟩
def sOd : ByteArray := ⟨#[1, 127, 200]⟩
def sLn : ByteArray := ⟨#[97, 98, 99, 100, 101, 102, 103, 104]⟩
theorem dAB : cellsTo sAB.data.toList sAB.size = [97, 32, 32, 32, 32, 32, 32, 32, 98] ∧ placesL sAB.data.toList = [0, 1, 8, 9] := by decide
theorem dOd : cellsTo sOd.data.toList sOd.size = [94, 65, 94, 63, 92, 51, 49, 48] ∧ placesL sOd.data.toList = [0, 2, 4, 8] := by decide
theorem dLn : cellsTo sLn.data.toList sLn.size = [97, 98, 99, 100, 101, 102, 103, 104] := by decide
theorem dAt : atZ sLn.data.toList 4 8 = (1, 3) := by decide
theorem dRows : rowsZ (cellsTo sLn.data.toList sLn.size).length 4 = 2 := by decide
theorem dRow : rowZ (cellsTo sLn.data.toList sLn.size) 4 1 = [101, 102, 103, 104] := by decide
theorem dNone : rowsZ (cellsTo ByteArray.empty.data.toList ByteArray.empty.size).length 4 = 1 := by decide

theorem cells_ab (w : World) (h : TabOK w) : Calls Tryd.prog 21 #[.string ⟨#[97, 9, 98]⟩] w fun e w' => (∃ v, e = .returned (.tuple #[.string ⟨#[97, 32, 32, 32, 32, 32, 32, 32, 98]⟩, v]) ∧ IntsAt w' v [0, 1, 8, 9]) ∧ Below w.heap.size w w' := by
  have := cells_any sAB w h (by decide)
  rw [dAB.1, dAB.2] at this
  exact this
theorem cells_od (w : World) (h : TabOK w) : Calls Tryd.prog 21 #[.string ⟨#[1, 127, 200]⟩] w fun e w' => (∃ v, e = .returned (.tuple #[.string ⟨#[94, 65, 94, 63, 92, 51, 49, 48]⟩, v]) ∧ IntsAt w' v [0, 2, 4, 8]) ∧ Below w.heap.size w w' := by
  have := cells_any sOd w h (by decide)
  rw [dOd.1, dOd.2] at this
  exact this
theorem at_ln (w : World) (h : TabOK w) : Calls Tryd.prog 25 #[.string ⟨#[97, 98, 99, 100, 101, 102, 103, 104]⟩, .int .i64 4, .int .i64 8] w fun e w' => e = .returned (.tuple #[.int .i64 1, .int .i64 3]) ∧ Below w.heap.size w w' := by
  have := at_any sLn 4 8 w h (by decide) (by decide)
  rw [dAt] at this
  exact this
theorem rows_ln (w : World) (h : TabOK w) : Calls Tryd.prog 27 #[.string ⟨#[97, 98, 99, 100, 101, 102, 103, 104]⟩, .int .i64 4] w fun e w' => e = .returned (.int .i64 2) ∧ Below w.heap.size w w' := by
  have := rows_any sLn 4 w h (by decide) (by decide)
  rw [dRows] at this
  exact this
theorem row_ln (w : World) (h : TabOK w) : Calls Tryd.prog 29 #[.string ⟨#[97, 98, 99, 100, 101, 102, 103, 104]⟩, .int .i64 4, .int .i64 1] w fun e w' => e = .returned (.string ⟨#[101, 102, 103, 104]⟩) ∧ Below w.heap.size w w' := by
  have := row_any sLn 4 1 w h (by decide) (by decide)
  rw [dRow] at this
  exact this
theorem rows_none (w : World) (h : TabOK w) : Calls Tryd.prog 27 #[.string ⟨#[]⟩, .int .i64 4] w fun e w' => e = .returned (.int .i64 1) ∧ Below w.heap.size w w' := by
  have := rows_any ByteArray.empty 4 w h (by decide) (by decide)
  rw [dNone] at this
  exact this
end Go.Proofs.YtnpdpfkoghhioaaDoor
