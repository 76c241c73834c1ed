/- The law WrapsRows: its walk. -/
import Derived.Test.YtnpdpfkoghhioaaDoorWR
namespace Go.Proofs.YtnpdpfkoghhioaaDoor
open Go.RowKit

theorem heldC {N : Nat} {W w1 w2 : World} (h : (∀ b o, b < N → w1.cell? ⟨b, o, none⟩ = W.cell? ⟨b, o, none⟩) ∧ Below N W w1) (hb : Below w1.heap.size w1 w2) (hN : N = W.heap.size) : (∀ b o, b < N → w2.cell? ⟨b, o, none⟩ = W.cell? ⟨b, o, none⟩) ∧ Below N W w2 := by
  have h2 : Below N W w2 := h.2.trans (hb.mono (by have := h.2.size; omega))
  exact ⟨fun b o hbo => h2.cell (p := ⟨b, o, none⟩) hbo, h2⟩
theorem HeldD {N : Nat} {W : World} : (∀ b o, b < N → W.drew.cell? ⟨b, o, none⟩ = W.cell? ⟨b, o, none⟩) ∧ Below N W W.drew :=
  ⟨fun _ _ _ => rfl, (Below.refl _ _).drew⟩

set_option maxRecDepth 100000 in
set_option maxHeartbeats 2000000 in
theorem wrapsRows_walk (s : ByteArray) (cols a0 a1 : Int) (w : World) (h : TabOK w) (hc : cols ≤ 9223372036854775807) :
    Calls Tryd.prog 6 #[.string s, .int .i64 cols, .agg #[.int .i64 a0, .int .i64 a1]] w fun e w' => e = .returned (.bool true) ∧ Below w.heap.size w w' := by
  have HT := Lib.hid h
  clear h
  by_cases hs : s.size ≤ 500
  · have hs2 : s.size ≤ 100000 := by omega
    have C1 : Hid (∀ w2, TabOK w2 → _) := Lib.hid (fun w2 h => at_any s cols a1 w2 h hs2 hc)
    have C2 : Hid (∀ w2, _) := Lib.hid (fun w2 => rat_any s cols a1 w2 hs2 hc)
    have C3 : Hid (∀ w2, TabOK w2 → _) := Lib.hid (fun w2 h => rows_any s cols w2 h hs2 hc)
    have C4 : Hid (∀ w2, _) := Lib.hid (fun w2 => rrows_any s cols w2 hs2 hc)
    have C5 : Hid (∀ w2, TabOK w2 → _) := Lib.hid (fun w2 h => row_any s cols a0 w2 h hs2 hc)
    have C6 : Hid (∀ w2, _) := Lib.hid (fun w2 => rrow_any s cols a0 w2 hs2 hc)
    clear hs2
    generalize atZ s.data.toList cols a1 = A at C1 C2
    generalize (rowZ (cellsTo s.data.toList s.size) cols a0) = R at C5 C6
    generalize (rowsZ (cellsTo s.data.toList s.size).length cols) = N at C3 C4
    obtain ⟨x, y⟩ := A
    go_enter Tryd.func6, Tryd.ntmps6
    go_wp2_with fail
    have z0 : (w.alloc (.cells #[.int .i64 a0, .int .i64 a1] 51 (0, 0))).cell? ⟨w.heap.size, 0, none⟩ = some (.int .i64 a0) := by rw [alloc_box]; rfl
    have z1 : (w.alloc (.cells #[.int .i64 a0, .int .i64 a1] 51 (0, 0))).cell? ⟨w.heap.size, 1, none⟩ = some (.int .i64 a1) := by rw [alloc_box]; rfl
    have hB0 : Below w.heap.size w (w.alloc (.cells #[.int .i64 a0, .int .i64 a1] 51 (0, 0))) := (Below.refl _ _).alloc (Nat.le_refl _) _
    have hlt : w.heap.size < (w.alloc (.cells #[.int .i64 a0, .int .i64 a1] 51 (0, 0))).heap.size := by show _ < (w.heap.push _).size; simp
    revert z0 z1 hB0 hlt
    generalize w.alloc (.cells #[.int .i64 a0, .int .i64 a1] 51 (0, 0)) = W0
    intro z0 z1 hB0 hlt
    (with_reducible refine (C1.out W0 (TabOK.later HT.out hB0)).mono ?_); rintro e w1 ⟨rfl, hb1⟩
    have y1 := (hb1.cell (p := ⟨w.heap.size, 1, none⟩) hlt).trans z1
    go_wp2_with fail
    (with_reducible refine (C2.out w1).mono ?_); rintro e w2 ⟨rfl, hb2⟩
    have hb2' := tr_below hb1 hb2
    have y0 := (hb2'.cell (p := ⟨w.heap.size, 0, none⟩) hlt).trans z0
    clear z0 z1 y1
    go_wp2_with fail
    have T2 : Hid (TabOK w2) := Lib.hid (TabOK.later HT.out (tr_below hB0 hb2'))
    have B2 := Lib.hid (tr_below hB0 hb2')
    have hl2 : w.heap.size < w2.heap.size := Nat.lt_of_lt_of_le hlt hb2'.size
    clear hb1 hb2 hb2' hB0 C1 C2 hlt
    go_region_held3 (fun w' => (∀ b o, b < w2.heap.size → w'.cell? ⟨b, o, none⟩ = w2.cell? ⟨b, o, none⟩) ∧ Below w2.heap.size w2 w') (first | with_reducible exact HeldD | with_reducible exact heldC (by assumption) (by assumption) rfl)
      (first
        | (go_at_call 27; with_reducible (refine (C3.out _ (TabOK.later T2.out (And.right (by assumption)))).mono ?_); rintro e w5 ⟨rfl, hb5⟩)
        | (go_at_call 28; with_reducible (refine (C4.out _).mono ?_); rintro e w6 ⟨rfl, hb6⟩)
        | (go_at_call 29; with_reducible (refine (C5.out _ (TabOK.later T2.out (And.right (by assumption)))).mono ?_); rintro e w7 ⟨rfl, hb7⟩)
        | (go_at_call 30; with_reducible (refine (C6.out _).mono ?_); rintro e w8 ⟨rfl, hb8⟩)
        | (go_at_call 24; with_reducible (refine (does_any _ (TabOK.later T2.out (And.right (by assumption)))).mono ?_); rintro e w9 ⟨rfl, hb9⟩))
    all_goals
      go_wp2_with fail
      go_ret
      exact ⟨rfl, tr_below B2.out (And.right (by assumption))⟩
  · go_enter Tryd.func6, Tryd.ntmps6
    have hd : decide ((500 : Int) < (s.size : Int)) = true := by simp; omega
    go_wp2_with fail
    go_ret
    exact ⟨rfl, (Below.refl _ _).alloc (Nat.le_refl _) _⟩
end Go.Proofs.YtnpdpfkoghhioaaDoor
