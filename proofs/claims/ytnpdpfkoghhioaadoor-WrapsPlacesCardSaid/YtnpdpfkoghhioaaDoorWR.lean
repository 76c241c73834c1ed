/- The chapter's examples: does returns true. -/
import Derived.Test.YtnpdpfkoghhioaaDoorWQ
import Derived.Deep.RegionHeld3
namespace Go.Proofs.YtnpdpfkoghhioaaDoor
open Go.RowKit

theorem tr_below {w a b : World} (h1 : Below w.heap.size w a) (h2 : Below a.heap.size a b) : Below w.heap.size w b := h1.trans (h2.mono h1.size)
theorem alloc_box (w : World) (c : Array Value) (t : TypeId) (k : Nat) : (w.alloc (.cells c t (0, 0))).cell? ⟨w.heap.size, k, none⟩ = c[k]? := by
  have h : (w.alloc (.cells c t (0, 0))).heap[w.heap.size]? = some (.cells c t (0, 0)) := by
    show (w.heap.push _)[w.heap.size]? = _
    rw [Array.getElem?_push, if_pos rfl]
  unfold World.cell?; rw [h]; rfl
theorem int_lits {w : World} {t : TypeId} {a b c d : Nat} : IntsAt (w.alloc (.cells #[.int .i64 (a : Int), .int .i64 (b : Int), .int .i64 (c : Int), .int .i64 (d : Int)] t (0, 0))) (.slice (some ⟨w.heap.size, 0, none⟩) 4 4) [a, b, c, d] := by
  refine ⟨_, _, rfl, fun _ => ⟨_, _, rfl, by show _ < (w.heap.push _).size; simp, fun j hj => ?_⟩⟩
  rw [Nat.zero_add, alloc_box]
  match j, hj with
  | 0, _ => rfl
  | 1, _ => rfl
  | 2, _ => rfl
  | 3, _ => rfl

theorem same4 (v1 v2 : Value) (l : List Nat) (w : World) (h1 : IntsAt w v1 l) (h2 : IntsAt w v2 l) (hb : l.length ≤ 1000000) :
    Calls Tryd.prog 23 #[v1, v2] w fun e w' => e = .returned (.bool true) ∧ Below w.heap.size w w' := by
  have := isame_any v1 v2 l l w h1 h2 hb hb
  simpa using this

set_option maxRecDepth 100000 in
set_option maxHeartbeats 4000000 in
theorem does_any (w : World) (h : TabOK w) : Calls Tryd.prog 24 #[] w fun e w' => e = .returned (.bool true) ∧ Below w.heap.size w w' := by
  have C1 := Lib.hid (cells_ab w h)
  have HT := Lib.hid h
  clear h
  go_enter Tryd.func24, Tryd.ntmps24
  go_wp2_with fail
  (with_reducible refine C1.out.mono ?_); rintro e w1 ⟨⟨v1, rfl, ho1⟩, hb1⟩
  have h1 := Lib.hid (TabOK.later HT.out hb1)
  have Ho1 := Lib.hid ho1
  clear ho1 C1
  go_wp2_with fail
  (with_reducible refine (cells_od w1 h1.out).mono ?_); rintro e w2 ⟨⟨v2, rfl, ho2⟩, hb2⟩
  have h2 := Lib.hid (TabOK.later h1.out hb2)
  have Ho1' := Lib.hid (Ho1.out.later hb2)
  have Ho2 := Lib.hid ho2
  clear ho2 Ho1
  go_wp2_with fail
  (with_reducible refine (at_ln w2 h2.out).mono ?_); rintro e w3 ⟨rfl, hb3⟩
  have h3 := Lib.hid (TabOK.later h2.out hb3)
  have Q1 := Lib.hid (Ho1'.out.later hb3)
  have Q2 := Lib.hid (Ho2.out.later hb3)
  have HB := Lib.hid (tr_below (tr_below hb1 hb2) hb3)
  clear Ho1' Ho2 h1 h2 hb1 hb2 hb3
  go_wp2_with fail
  have A1 := Lib.hid ((Below.refl w3.heap.size w3).alloc (Nat.le_refl _) (.cells #[.int .i64 0, .int .i64 1, .int .i64 8, .int .i64 9] 3 (0, 0)))
  have S1 := Lib.hid (same4 v1 _ [0, 1, 8, 9] _ (Q1.out.later A1.out) (int_lits (a := 0) (b := 1) (c := 8) (d := 9)) (by decide))
  (with_reducible refine S1.out.mono ?_); rintro e w4 ⟨rfl, hb4⟩
  have B4 := Lib.hid (tr_below A1.out hb4)
  clear A1 S1 hb4
  go_wp2_with fail
  have A2 := Lib.hid (tr_below B4.out ((Below.refl w4.heap.size w4).alloc (Nat.le_refl _) (.cells #[.int .i64 0, .int .i64 2, .int .i64 4, .int .i64 8] 3 (0, 0))))
  have S2 := Lib.hid (same4 v2 _ [0, 2, 4, 8] _ (Q2.out.later A2.out) (int_lits (a := 0) (b := 2) (c := 4) (d := 8)) (by decide))
  (with_reducible refine S2.out.mono ?_); rintro e w5 ⟨rfl, hb5⟩
  have B5 := Lib.hid (tr_below HB.out (tr_below A2.out hb5))
  have T5 := Lib.hid (TabOK.later HT.out B5.out)
  clear A2 S2 hb5 B4 Q1 Q2
  go_wp2_with fail
  (with_reducible refine (rows_ln _ T5.out).mono ?_); rintro e w6 ⟨rfl, hb6⟩
  have B6 := Lib.hid (tr_below B5.out hb6)
  have T6 := Lib.hid (TabOK.later HT.out B6.out)
  clear hb6
  go_wp2_with fail
  (with_reducible refine (row_ln _ T6.out).mono ?_); rintro e w7 ⟨rfl, hb7⟩
  have B7 := Lib.hid (tr_below B6.out hb7)
  have T7 := Lib.hid (TabOK.later HT.out B7.out)
  clear hb7
  go_wp2_with fail
  (with_reducible refine (rows_none _ T7.out).mono ?_); rintro e w8 ⟨rfl, hb8⟩
  have B8 := Lib.hid (tr_below B7.out hb8)
  clear hb8
  go_wp2_with fail
  go_ret
  exact ⟨rfl, B8.out⟩
end Go.Proofs.YtnpdpfkoghhioaaDoor
