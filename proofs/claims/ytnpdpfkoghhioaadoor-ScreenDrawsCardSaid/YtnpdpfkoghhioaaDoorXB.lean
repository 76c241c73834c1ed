/- grids.Check, and the chapter's Check over its May. -/
import Derived.Test.YtnpdpfkoghhioaaDoorXA
namespace Go.Proofs.YtnpdpfkoghhioaaDoor
open Go.RowKit

def Small (g : G) : Prop := g.cells.length ≤ 1000000 ∧ ∀ r ∈ g.cells, r.length ≤ 1000000
theorem mayB_eq (g : G) : mayB g = (sizedB g.rows g.cols && decide ((g.cells.length : Int) = g.rows) && (decide (0 ≤ g.row) && decide (g.row < g.rows)) && (decide (0 ≤ g.col) && decide (g.col < g.cols)) && g.cells.all (lineB g.cols)) := rfl

theorem new_box (w : World) (c : Array Value) (t : TypeId) (k : Nat) : (w.alloc (.cells c t (0, 0))).cell? ⟨w.heap.size, k, none⟩ = c[k]? := by
  have h : (w.alloc (.cells c t (0, 0))).heap[w.heap.size]? = some (.cells c t (0, 0)) := by rw [heap_alloc, if_pos rfl]
  unfold World.cell?; rw [h]; rfl

set_option maxRecDepth 100000 in
set_option maxHeartbeats 2000000 in
theorem check_any (v : Value) (g : G) (w : World) (h : GridAt w.heap.size w v g) (hb : Small g) :
    Calls Tryd.prog 20 #[v] w fun e w' => e = .returned (.int .i64 (if mayB g = true then 0 else 2)) ∧ Below w.heap.size w w' := by
  obtain ⟨r, c, L, x, y⟩ := g
  obtain ⟨cv, rfl, hc⟩ := h
  obtain ⟨hb1, hb2⟩ := hb
  simp only at hb1 hb2 hc
  have C1 : ∀ w, Hid (Calls Tryd.prog 48 #[.int .i64 r, .int .i64 c] w fun e w' => e = .returned (.bool (sizedB r c)) ∧ w = w') := fun w => Lib.hid (sized_any r c w)
  have C2 : ∀ w, Hid (Calls Tryd.prog 47 #[.int .i64 x, .int .i64 r] w fun e w' => e = .returned (.bool (decide (0 ≤ x) && decide (x < r))) ∧ w = w') := fun w => Lib.hid (check2_any x r w)
  have C3 : ∀ w, Hid (Calls Tryd.prog 47 #[.int .i64 y, .int .i64 c] w fun e w' => e = .returned (.bool (decide (0 ≤ y) && decide (y < c))) ∧ w = w') := fun w => Lib.hid (check2_any y c w)
  have C4 := Lib.hid (contains2_any cv L (w.alloc (.cells #[.int .i64 r, .int .i64 c, cv, .int .i64 x, .int .i64 y] 37)) w.heap.size c (hc.later (by go_grown)) hb1 hb2 (by rw [new_box]; rfl))
  obtain ⟨a, k, rfl, hx⟩ := hc
  clear hx hb1 hb2
  rw [mayB_eq]
  simp only
  obtain ⟨p1, hp1⟩ : ∃ p, p = sizedB r c := ⟨_, rfl⟩
  obtain ⟨p2, hp2⟩ : ∃ p, p = (decide (0 ≤ x) && decide (x < r)) := ⟨_, rfl⟩
  obtain ⟨p3, hp3⟩ : ∃ p, p = (decide (0 ≤ y) && decide (y < c)) := ⟨_, rfl⟩
  obtain ⟨p4, hp4⟩ : ∃ p, p = L.all (lineB c) := ⟨_, rfl⟩
  rw [← hp1, ← hp2, ← hp3, ← hp4]
  simp only [← hp1] at C1
  simp only [← hp2] at C2
  simp only [← hp3] at C3
  simp only [← hp4] at C4
  clear hp1 hp2 hp3 hp4
  go_enter Tryd.func20, Tryd.ntmps20
  go_wp2_with fail
  (with_reducible refine (C1 _).out.mono ?_); rintro e w' ⟨rfl, rfl⟩
  cases p1 with
  | false =>
    go_wp2_with fail
    all_goals (go_ret; exact ⟨by first | rfl | simp, by go_grown⟩)
  | true =>
    by_cases t : (L.length : Int) = r
    · go_wp2_with fail
      (with_reducible refine (C2 _).out.mono ?_); rintro e w' ⟨rfl, rfl⟩
      cases p2 with
      | false =>
        go_wp2_with fail
        all_goals (go_ret; exact ⟨by first | rfl | simp, by go_grown⟩)
      | true =>
        go_wp2_with fail
        (with_reducible refine (C3 _).out.mono ?_); rintro e w' ⟨rfl, rfl⟩
        cases p3 with
        | false =>
          go_wp2_with fail
          all_goals (go_ret; exact ⟨by first | rfl | simp, by go_grown⟩)
        | true =>
          go_wp2_with fail
          (with_reducible refine C4.out.mono ?_); rintro e w' ⟨rfl, rfl⟩
          cases p4 with
          | false =>
            go_wp2_with fail
            all_goals (go_ret; exact ⟨by first | rfl | simp, by go_grown⟩)
          | true =>
            go_wp2_with fail
            all_goals (go_ret; exact ⟨by first | rfl | simp, by go_grown⟩)
    · go_wp2_with fail
      all_goals (go_ret; exact ⟨by first | rfl | simp, by go_grown⟩)
end Go.Proofs.YtnpdpfkoghhioaaDoor
