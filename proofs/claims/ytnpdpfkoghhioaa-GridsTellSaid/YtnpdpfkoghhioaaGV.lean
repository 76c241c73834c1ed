/- GridsNew: the law returns true at every size. -/
import Derived.Test.YtnpdpfkoghhioaaGU
namespace Go.Proofs.Ytnpdpfkoghhioaa
open Go.RowKit

theorem sameB_self (g : G) : sameB g g = true := by simp [sameB]
theorem new_len (r c : Int) : (if sizedB r c = true then newG r c else zeroG).cells.length ≤ 1000000 := by
  by_cases h : sizedB r c = true
  · rw [if_pos h]
    simp [sizedB] at h
    simp [newG]; omega
  · rw [if_neg h]; simp [zeroG]

set_option maxRecDepth 100000 in
set_option maxHeartbeats 4000000 in
theorem new_law (r c : Int) (w : World) : Calls Try.prog 3 #[.int .i64 r, .int .i64 c] w fun e w' => e = .returned (.bool true) ∧ Below w.heap.size w w' := by
  obtain ⟨g, hg⟩ : ∃ g, g = if sizedB r c = true then newG r c else zeroG := ⟨_, rfl⟩
  obtain ⟨z, hz⟩ : ∃ z : Int, z = if sizedB r c = true then 0 else 2 := ⟨_, rfl⟩
  have hl : g.cells.length ≤ 1000000 := by rw [hg]; exact new_len r c
  have C1 : ∀ w, Hid (Calls Try.prog 9 #[.int .i64 r, .int .i64 c] w fun e w' => (∃ gv, e = .returned (.tuple #[gv, .int .i64 z]) ∧ OwnGrid w.heap.size w' gv g) ∧ Below w.heap.size w w') := by
    intro w; rw [hg, hz]; exact Lib.hid (new_any r c w)
  have C2 : ∀ w, Hid (Calls Try.prog 10 #[.int .i64 r, .int .i64 c] w fun e w' => (∃ gv, e = .returned (.tuple #[gv, .int .i64 z]) ∧ OwnGrid w.heap.size w' gv g) ∧ Below w.heap.size w w') := by
    intro w; rw [hg, hz]; exact Lib.hid (rnew_any r c w)
  clear hg hz
  go_enter Try.func3, Try.ntmps3
  go_wp2_with fail
  (with_reducible refine (C1 _).out.mono ?_); rintro e w1 ⟨⟨v1, rfl, ho1⟩, hb1⟩
  obtain ⟨h1, k1, rfl⟩ := agg_of ho1
  go_wp2_with fail
  generalize hW1 : World.alloc w1 _ = W1
  have bx1 : Box5 W1 w1.heap.size 24 (.int .i64 g.rows) (.int .i64 g.cols) (.slice h1 g.cells.length k1) (.int .i64 g.row) (.int .i64 g.col) := by rw [← hW1]; unfold Box5; rw [heap_alloc, if_pos rfl]
  have hB1 : Below w1.heap.size w1 W1 := by rw [← hW1]; exact (Below.refl _ _).alloc (Nat.le_refl _) _
  have gr1 := Lib.hid (ho1.at.later hB1)
  have HB1 : Below w.heap.size w W1 := below_tr hb1 hB1
  have Hbx1 := Lib.hid bx1
  clear ho1 hW1 bx1
  (with_reducible refine (C2 _).out.mono ?_); rintro e w2 ⟨⟨v2, rfl, ho2⟩, hb2⟩
  obtain ⟨h2, k2, rfl⟩ := agg_of ho2
  have b2 : Box5 w2 _ _ _ _ _ _ _ := Hbx1.out.below hb2 Hbx1.out.lt
  have a0 := fun o => (b2.alloc' o).c0
  have a1 := fun o => (b2.alloc' o).c1
  have a2 := fun o => (b2.alloc' o).c2
  have a3 := fun o => (b2.alloc' o).c3
  have a4 := fun o => (b2.alloc' o).c4
  have C3 : ∀ o, Hid (Calls Try.prog 11 #[.agg #[.int .i64 g.rows, .int .i64 g.cols, .slice h1 g.cells.length k1, .int .i64 g.row, .int .i64 g.col], .agg #[.int .i64 g.rows, .int .i64 g.cols, .slice h2 g.cells.length k2, .int .i64 g.row, .int .i64 g.col]] (w2.alloc o) fun e w' => e = .returned (.bool true) ∧ Below (w2.alloc o).heap.size (w2.alloc o) w') := by
    intro o
    have hx := lsame_any _ _ g g (w2.alloc o) ((gr1.out.later hb2).later ((Below.refl _ _).alloc (Nat.le_refl _) o)) (ho2.at.later ((Below.refl _ _).alloc (Nat.le_refl _) o)) hl hl
    rw [sameB_self] at hx
    exact Lib.hid hx
  clear b2
  go_wp2_with fail
  (with_reducible refine (C3 _).out.mono ?_); rintro e w3 ⟨rfl, hb3⟩
  go_wp2_with fail
  (with_reducible refine (does_any _).mono ?_); rintro e w4 ⟨rfl, hb4⟩
  go_wp2_with fail
  go_ret
  exact ⟨rfl, below_tr (below_tr (below_tr HB1 hb2) ((Below.refl _ _).alloc (Nat.le_refl _) _)) (below_tr hb3 hb4)⟩
end Go.Proofs.Ytnpdpfkoghhioaa
