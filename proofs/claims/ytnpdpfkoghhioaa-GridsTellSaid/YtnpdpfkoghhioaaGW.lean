/- GridsSame: the law returns true of every two grids. -/
import Derived.Test.YtnpdpfkoghhioaaGV
namespace Go.Proofs.Ytnpdpfkoghhioaa
open Go.RowKit

theorem sameB_comm (g h : G) : sameB g h = sameB h g := by
  have e : ∀ (a b : Int), decide (a = b) = decide (b = a) := fun a b => decide_eq_decide.2 ⟨Eq.symm, Eq.symm⟩
  simp only [sameB]
  rw [e g.rows h.rows, e g.cols h.cols, e g.row h.row, e g.col h.col, decide_eq_decide.2 (⟨Eq.symm, Eq.symm⟩ : g.cells = h.cells ↔ h.cells = g.cells)]
abbrev gval (g : G) (ha : Option Addr) (hc : Nat) : Value := .agg #[.int .i64 g.rows, .int .i64 g.cols, .slice ha g.cells.length hc, .int .i64 g.row, .int .i64 g.col]
theorem agg_at {B : Nat} {w : World} {v : Value} {g : G} (h : GridAt B w v g) : ∃ ha hc, v = gval g ha hc := by
  obtain ⟨cv, rfl, ha, hc, rfl, _⟩ := h
  exact ⟨ha, hc, rfl⟩
abbrev GBox (w : World) (b : Nat) (g : G) (ha : Option Addr) (hc : Nat) : Prop := Box5 w b 24 (.int .i64 g.rows) (.int .i64 g.cols) (.slice ha g.cells.length hc) (.int .i64 g.row) (.int .i64 g.col)

set_option maxRecDepth 100000 in
set_option maxHeartbeats 4000000 in
theorem gsame_law (v1 v2 : Value) (g h : G) (w : World) (hg : GridAt w.heap.size w v1 g) (hh : GridAt w.heap.size w v2 h)
    (hb1 : g.cells.length ≤ 9223372036854775807) (hb2 : ∀ r ∈ g.cells, r.length ≤ 9223372036854775807) (hb3 : h.cells.length ≤ 9223372036854775807) (hb4 : ∀ r ∈ h.cells, r.length ≤ 9223372036854775807) :
    Calls Try.prog 5 #[v1, v2] w fun e w' => e = .returned (.bool true) ∧ Below w.heap.size w w' := by
  have M1 : ∀ w1, Below w.heap.size w w1 → Hid (Calls Try.prog 13 #[v1] w1 fun e w' => e = .returned (.bool (muchB g)) ∧ Below w1.heap.size w1 w') := fun w1 hw => Lib.hid (much_any v1 g w1 (hg.later hw) hb1 hb2)
  have M2 : ∀ w1, Below w.heap.size w w1 → Hid (Calls Try.prog 13 #[v2] w1 fun e w' => e = .returned (.bool (muchB h)) ∧ Below w1.heap.size w1 w') := fun w1 hw => Lib.hid (much_any v2 h w1 (hh.later hw) hb3 hb4)
  obtain ⟨p, hp⟩ : ∃ p, p = muchB g := ⟨_, rfl⟩
  obtain ⟨q, hq⟩ : ∃ q, q = muchB h := ⟨_, rfl⟩
  simp only [← hp] at M1
  simp only [← hq] at M2
  have Hp := Lib.hid hp
  have Hq := Lib.hid hq
  have Hg := Lib.hid hg
  have Hh := Lib.hid hh
  clear hp hq hb1 hb2 hb3 hb4
  obtain ⟨a1, k1, rfl⟩ := agg_at hg
  obtain ⟨a2, k2, rfl⟩ := agg_at hh
  clear hg hh
  go_enter Try.func5, Try.ntmps5
  go_wp2_with fail
  generalize hW1 : World.alloc (World.alloc _ _) _ = W1
  have hB1 : Below w.heap.size w W1 := by rw [← hW1]; go_grown
  have hs1 : W1.heap.size = w.heap.size + 2 := by rw [← hW1, size_alloc, size_alloc]
  have x1 : GBox W1 w.heap.size g a1 k1 := by rw [← hW1]; unfold GBox Box5; rw [heap_alloc, if_neg (by rw [size_alloc]; omega), heap_alloc, if_pos rfl]
  have x2 : GBox W1 (w.heap.size + 1) h a2 k2 := by rw [← hW1]; unfold GBox Box5; rw [heap_alloc, if_pos (by rw [size_alloc])]
  clear hW1
  (with_reducible refine (M1 _ hB1).out.mono ?_); rintro e w2 ⟨rfl, hb2⟩
  have hB2 := below_tr hB1 hb2
  cases p with
  | true =>
    go_wp2_with fail
    go_ret
    exact ⟨rfl, hB2⟩
  | false =>
    have y1 := x1.below hb2 x1.lt
    have y2 := x2.below hb2 x2.lt
    have hs2 := hb2.size
    have X1 := Lib.hid y1
    have X2 := Lib.hid y2
    have c0 := y2.c0
    have c1 := y2.c1
    have c2 := y2.c2
    have c3 := y2.c3
    have c4 := y2.c4
    clear x1 x2 y1 y2
    go_wp2_with fail
    (with_reducible refine (M2 _ hB2).out.mono ?_); rintro e W ⟨rfl, hb3⟩
    clear c0 c1 c2 c3 c4
    have hB3 := below_tr hB2 hb3
    cases q with
    | true =>
      go_wp2_with fail
      go_ret
      exact ⟨rfl, hB3⟩
    | false =>
      have sg := Small_of_much Hp.out.symm
      have sh := Small_of_much Hq.out.symm
      have y1 := X1.out.below hb3 X1.out.lt
      have y2 := X2.out.below hb3 X2.out.lt
      have l1 := y1.lt
      have l2 := y2.lt
      have c0 := y1.c0
      have c1 := y1.c1
      have c2 := y1.c2
      have c3 := y1.c3
      have c4 := y1.c4
      have d0 := y2.c0
      have d1 := y2.c1
      have d2 := y2.c2
      have d3 := y2.c3
      have d4 := y2.c4
      clear X1 X2 y1 y2
      go_wp2_with fail
      have S1 : ∀ w5, Below W.heap.size W w5 → Hid (Calls Try.prog 23 #[gval g a1 k1, gval h a2 k2] w5 fun e w' => e = .returned (.bool (sameB g h)) ∧ Below w5.heap.size w5 w') :=
        fun w5 hb => Lib.hid (same_any _ _ g h w5 (Hg.out.later (hB3.trans (hb.mono hB3.size))) (Hh.out.later (hB3.trans (hb.mono hB3.size))) sg.1 sh.1)
      have S2 : ∀ w5, Below W.heap.size W w5 → Hid (Calls Try.prog 23 #[gval h a2 k2, gval g a1 k1] w5 fun e w' => e = .returned (.bool (sameB g h)) ∧ Below w5.heap.size w5 w') := by
        intro w5 hb
        have hx := same_any _ _ h g w5 (Hh.out.later (hB3.trans (hb.mono hB3.size))) (Hg.out.later (hB3.trans (hb.mono hB3.size))) sh.1 sg.1
        rw [sameB_comm h g] at hx
        exact Lib.hid hx
      have S3 : ∀ w5, Below W.heap.size W w5 → Hid (Calls Try.prog 24 #[gval g a1 k1, gval h a2 k2] w5 fun e w' => e = .returned (.bool (sameB g h)) ∧ Below w5.heap.size w5 w') :=
        fun w5 hb => Lib.hid (rsame_any _ _ g h w5 (Hg.out.later (hB3.trans (hb.mono hB3.size))) (Hh.out.later (hB3.trans (hb.mono hB3.size))) sg.1 sh.1)
      have S4 : ∀ w5, Below W.heap.size W w5 → Hid (Calls Try.prog 14 #[gval g a1 k1] w5 fun e w' => (∃ v', e = .returned v' ∧ OwnGrid w5.heap.size w' v' g) ∧ Below w5.heap.size w5 w') :=
        fun w5 hb => Lib.hid (rclone_any _ g w5 (Hg.out.later (hB3.trans (hb.mono hB3.size))) sg)
      have S5 : ∀ v w5, Below W.heap.size W w5 → GridAt w5.heap.size w5 v g → Hid (Calls Try.prog 23 #[gval g a1 k1, v] w5 fun e w' => e = .returned (.bool true) ∧ Below w5.heap.size w5 w') := by
        intro v w5 hb ho
        have hx := same_any _ _ g g w5 (Hg.out.later (hB3.trans (hb.mono hB3.size))) ho sg.1 sg.1
        rw [sameB_self] at hx
        exact Lib.hid hx
      obtain ⟨z, hz⟩ : ∃ z, z = sameB g h := ⟨_, rfl⟩
      simp only [← hz] at S1 S2 S3
      clear hz sg sh
      have S6 : ∀ w5, Below W.heap.size W w5 → Hid (Calls Try.prog 12 #[] w5 fun e w' => e = .returned (.bool true) ∧ Below w5.heap.size w5 w') := fun w5 _ => Lib.hid (does_any w5)
      have ez : (z == z) = true := by cases z <;> rfl
      go_region_held3 (fun w' => (∀ b o, b < W.heap.size → w'.cell? ⟨b, o, none⟩ = W.cell? ⟨b, o, none⟩) ∧ Below W.heap.size W w') (first | exact Held.drew | exact Held.call (by assumption) (by assumption) rfl | exact Held.alloc (by assumption) rfl _)
        (first
          | (go_at_call 23; with_reducible (refine (S1 _ (And.right (by assumption))).out.mono ?_); rintro e w8 ⟨rfl, hb8⟩)
          | (go_at_call 23; with_reducible (refine (S2 _ (And.right (by assumption))).out.mono ?_); rintro e w8 ⟨rfl, hb8⟩)
          | (go_at_call 23; with_reducible (refine (S5 _ _ (And.right (by assumption)) ho7.at).out.mono ?_); rintro e w8 ⟨rfl, hb8⟩)
          | (go_at_call 24; with_reducible (refine (S3 _ (And.right (by assumption))).out.mono ?_); rintro e w8 ⟨rfl, hb8⟩)
          | (go_at_call 14; with_reducible (refine (S4 _ (And.right (by assumption))).out.mono ?_); rintro e w7 ⟨⟨v7, rfl, ho7⟩, hb7⟩)
          | (go_at_call 12; with_reducible (refine (S6 _ (And.right (by assumption))).out.mono ?_); rintro e w9 ⟨rfl, hb9⟩))
      all_goals
        go_wp2_with fail
        go_ret
        exact ⟨rfl, below_tr hB3 (And.right (by assumption))⟩
end Go.Proofs.Ytnpdpfkoghhioaa
